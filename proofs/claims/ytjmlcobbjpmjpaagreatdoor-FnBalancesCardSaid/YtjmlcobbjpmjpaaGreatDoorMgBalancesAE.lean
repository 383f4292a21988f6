/- The laws' draws for a booking made, a booking's text, lists compared, since when a client owes, who owes. A block beside those that a call has turned. Bookings: slices.Insert of one element, at a slice of the call's own. A slice of the call's own made longer by so many zero values, where there is no room. Bookings: slices.Insert of one element, where there is no room. Bookings: one added, as the program does it. Bookings: one added, as the program does it: the whole. Words for slices at offset nought. Bookings: one added, as the reference says it. Bookings: one added: both sides together. The clients that owe, in the program: found, struck, sorted. The clients that owe, in the reference: each is put to its place. The clients that owe, on both sides. -/
import Derived.Test.YtjmlcobbjpmjpaaGreatDoorMgBalancesAD
import Derived.Deep.DeepCutAuto
import Derived.Deep.RegionHeld3
import Derived.Orders
import Derived.Test.YtjmlcobbjpmjpaaGreatDoorMgBalancesAA
import Derived.Laws.Externs
import Derived.Lib.AppendZeros
import Derived.Deep.RegionLaw
import Derived.Lib.AppendZerosOnto
import Derived.Test.YtjmlcobbjpmjpaaGreatDoorMgBalancesAB
set_option linter.unusedVariables false
set_option linter.unusedSimpArgs false
namespace Go.Proofs.YtjmlcobbjpmjpaaGreatDoor
open Go.RowKit

theorem drawOwedSince_any (A : Option Addr) (n c : Nat) (bs : List Int) (w : World) (h : Reads w w.heap.size 1 A n (byts bs)) (hb : ∀ x ∈ bs, Byt x) (hn : n ≤ 9223372036854775807) :
    Calls Tryz.prog 11 #[.slice A n c] w fun e w' => ∃ (l : List Bk) (A' : Option Addr) (d : Nat) (s : ByteArray) (x : Int), e = .returned (.tuple #[.slice A' l.length d, .string s, .int .i64 x]) ∧ s.size ≤ 12 ∧ I64 x ∧ BksOut w l A' d w' := by
  have HH := Lib.hid h
  have HB := Lib.hid hb
  clear h hb
  go_enter Tryz.func11, Tryz.ntmps11
  go_wp2_with fail
  refine (l25Ask_any A n c bs _ HH.out HB.out hn).mono ?_
  rintro e w1 ⟨l, A', d, s, x, rfl, hss, hx, hl, hgd, sl, b1⟩
  have HG := Lib.hid hgd
  have HSL := Lib.hid sl
  have HB1 := Lib.hid b1
  clear hgd sl b1
  go_wp2
  go_ret3
  exact ⟨l, A', d, s, x, rfl, hss, hx, hl, HG.out, HSL.out, HB1.out⟩
theorem drawDebtorsOn_any (A : Option Addr) (n c : Nat) (bs : List Int) (w : World) (h : Reads w w.heap.size 1 A n (byts bs)) (hb : ∀ x ∈ bs, Byt x) (hn : n ≤ 9223372036854775807) :
    Calls Tryz.prog 16 #[.slice A n c] w fun e w' => ∃ (l : List Bk) (A' : Option Addr) (d : Nat) (x : Int), e = .returned (.tuple #[.slice A' l.length d, .int .i64 x]) ∧ I64 x ∧ BksOut w l A' d w' := by
  have HH := Lib.hid h
  have HB := Lib.hid hb
  clear h hb
  go_enter Tryz.func16, Tryz.ntmps16
  go_wp2_with fail
  refine (l25Ask_any A n c bs _ HH.out HB.out hn).mono ?_
  rintro e w1 ⟨l, A', d, s, x, rfl, hss, hx, hl, hgd, sl, b1⟩
  have HG := Lib.hid hgd
  have HSL := Lib.hid sl
  have HB1 := Lib.hid b1
  clear hgd sl b1
  go_wp2
  go_ret2
  exact ⟨l, A', d, x, rfl, hx, hl, HG.out, HSL.out, HB1.out⟩

theorem Sl.nearSet2 {w : World} {lo hi size n c : Nat} {t : TypeId} {A : Option Addr} {xs : List Value} (h : Sl w lo hi t size A n c xs) {p : Addr} (hp : p.block < lo) (u : Value) : Sl (w.setCell p u) lo hi t size A n c xs := h.keep fun b h1 _ _ => Below.heap_setCell w p u b (by omega)
theorem Blk.only2 {lo hi g : Nat} {t : TypeId} {cs : Array Value} {w w' : World} (h : Blk w g t cs) (ho : Only lo hi w w') (hd : g < lo ∨ hi ≤ g) : Blk w' g t cs := (ho.block g h.lt hd).trans h
theorem Blk.cast2 {g : Nat} {t : TypeId} {cs cs' : Array Value} {w : World} (h : Blk w g t cs) (e : cs = cs') : Blk w g t cs' := e ▸ h
set_option maxHeartbeats 4000000 in
set_option maxRecDepth 100000 in
theorem drawBookClient_any (A : Option Addr) (n c : Nat) (bs : List Int) (w : World) (h : Reads w w.heap.size 1 A n (byts bs)) (hb : ∀ x ∈ bs, Byt x) (hn : n ≤ 9223372036854775807) :
    Calls Tryz.prog 8 #[.slice A n c] w fun e w' => ∃ (l : List Bk) (A' : Option Addr) (d : Nat) (x : Bk), e = .returned (.tuple #[.slice A' l.length d, .agg #[.int .i64 x.day, .string x.client, .int .i64 x.amount]]) ∧ (x.good ∧ x.small) ∧ BksOut w l A' d w' := by
  have HH := Lib.hid h
  have HB := Lib.hid hb
  clear h hb
  go_enter Tryz.func8, Tryz.ntmps8
  go_wp2_with fail
  obtain ⟨wz, hwz⟩ : ∃ y, w.alloc (.cells #[.int .i64 0, .string ⟨#[]⟩, .int .i64 0] 26) = y := ⟨_, rfl⟩
  rw [hwz]
  have yz : Blk wz w.heap.size 26 #[.int .i64 0, .string ⟨#[]⟩, .int .i64 0] := by rw [← hwz]; exact Blk.new _ _ _
  have bz : Below w.heap.size w wz := by rw [← hwz]; exact (Below.refl _ _).alloc (Nat.le_refl _) _
  have zz : w.heap.size + 1 = wz.heap.size := by rw [← hwz]; simp
  clear hwz
  refine (l00From_any A n c bs _ ((HH.out.on (Nat.le_refl _) bz).more (by omega)) HB.out hn).mono ?_
  rintro e w1 ⟨rfl, s1, b1, z1⟩
  have yz1 := yz.on b1
  go_wp2_with fail
  refine (l25Bent_any _ 0 _ s1 (by omega)).mono ?_
  rintro e w2 ⟨l, A', d, rfl, hl, hgd, sl, s2, o2⟩
  have yz2 := yz1.only2 o2 (Or.inl (by omega))
  have z2 := o2.size
  have HG := Lib.hid hgd
  clear hgd yz yz1
  go_wp2_with fail
  refine (pick_any _ _ 60 _ s2 (by omega) ⟨by omega, by omega⟩).mono ?_
  rintro e w3 ⟨p3, rfl, hp3, s3, o3⟩
  have hp3a := hp3.lt (by omega)
  have hp3b := hp3.1
  have z3 := o3.size
  have yz3 := yz2.only2 o3 (Or.inl (by omega))
  have sl3 := sl.apart o3 (Or.inr (by omega))
  have HB3 := Lib.hid ((bz.trans (b1.mono (by omega))).trans ((o2.trans o3).below (by omega) (by omega)))
  clear hp3 o2 o3 s2 sl yz2 b1 bz
  go_wp2_with fail
  refine (pick_any _ _ 5 _ s3 (by omega) ⟨by omega, by omega⟩).mono ?_
  rintro e w4 ⟨p4, rfl, hp4, s4, o4⟩
  have hp4a := hp4.lt (by omega)
  have hp4b := hp4.1
  have z4 := o4.size
  have yz4 := yz3.only2 o4 (Or.inl (by omega))
  have sl4 := sl3.apart o4 (Or.inr (by omega))
  have HB4 := Lib.hid (HB3.out.trans (o4.below (B := w.heap.size) (by omega) (by omega)))
  clear hp4 o4 s3 sl3 yz3
  have hwp : IntKind.i64.wrap (5 - p4) = 5 - p4 := by rw [IntKind.wrap_i64]; omega
  have HG1 := Lib.hid (show GoodB [⟨p3, ⟨#[119, 97, 114, 100]⟩, 5 - p4⟩] from fun y hy => by rw [List.mem_singleton] at hy; subst hy; exact good_bk ⟨by omega, by omega⟩ ⟨by omega, by omega⟩ (by decide))
  go_wp2_with fail
  obtain ⟨w5, hw5⟩ : ∃ y, w4.alloc (.cells #[.int .i64 p3, .string ⟨#[119, 97, 114, 100]⟩, .int .i64 (5 - p4)] 26) = y := ⟨_, rfl⟩
  try rw [hw5]
  have y5 : Blk w5 w4.heap.size 26 (bks [⟨p3, ⟨#[119, 97, 114, 100]⟩, 5 - p4⟩]).toArray := by rw [← hw5]; exact Blk.new _ _ _
  have yz5 : Blk w5 w.heap.size 26 #[.int .i64 0, .string ⟨#[]⟩, .int .i64 0] := by rw [← hw5]; exact yz4.alloc _
  have s5 : Src wz.heap.size (0 + 1010 + 2 + 2) w5 := by rw [← hw5]; exact s4.alloc _
  have sl5 := Lib.hid (show Sl w5 w1.heap.size w2.heap.size 26 3 A' l.length d (bks l) by rw [← hw5]; exact sl4.up _)
  have HB5 := Lib.hid (show Below w.heap.size w w5 by rw [← hw5]; exact HB4.out.alloc (by omega) _)
  have z5 : w4.heap.size + 1 = w5.heap.size := by rw [← hw5]; simp
  clear hw5 yz4 sl4 s4 hwp
  generalize 5 - p4 = am at *
  refine (one_any _ _ 6 _ s5 (by omega) ⟨by omega, by omega⟩).mono ?_
  rintro e w6 ⟨b6, rfl, s6, o6⟩
  have z6 := o6.size
  have HB6 := Lib.hid (HB5.out.trans (o6.below (B := w.heap.size) (by omega) (by omega)))
  have HSL6 := Lib.hid (sl5.out.apart o6 (Or.inr (by omega)))
  have y6 := y5.only2 o6 (Or.inr (by omega))
  have yz6 := yz5.only2 o6 (Or.inl (by omega))
  clear o6 y5 yz5 s5
  have hgz := s6.lt
  go_upto_if 18 with fail
  go_cut [] (fun wx => ∃ x' : Bk, GoodB [x'] ∧ Blk wx w4.heap.size 26 (bks [x']).toArray ∧ Blk wx w.heap.size 26 #[.int .i64 0, .string ⟨#[]⟩, .int .i64 0] ∧ Sl wx w1.heap.size w2.heap.size 26 3 A' l.length d (bks l) ∧ Below w.heap.size w wx ∧ w6.heap.size ≤ wx.heap.size)
  case first =>
    rcases b6 with _ | _
    · go_wp2_with fail
      go_meet
      exact ⟨_, HG1.out, y6, yz6, HSL6.out, HB6.out, Nat.le_refl _⟩
    · have k0 : w6.cell? ⟨w4.heap.size, 0, none⟩ = some (.int .i64 p3) := y6.cellAt 0 (by simp [bks, cellsBk])
      have k1 : w6.cell? ⟨w4.heap.size, 1, none⟩ = some (.string ⟨#[119, 97, 114, 100]⟩) := y6.cellAt 1 (by simp [bks, cellsBk])
      have k2 : w6.cell? ⟨w4.heap.size, 2, none⟩ = some (.int .i64 am) := y6.cellAt 2 (by simp [bks, cellsBk])
      go_wp2_with fail
      refine (l25Spoil_any _ _ w4.heap.size 0 _ _ _ _ s6 (by omega) (by omega) (by omega) k0 k1 k2 (y6.frozen _) (y6.frozen _) (y6.frozen _)).mono ?_
      rintro e w8 ⟨rfl, w7, s7, o7, hw8⟩
      have z7 := o7.size
      have y7 := y6.only2 o7 (Or.inr (by omega))
      have yz7 := yz6.only2 o7 (Or.inl (by omega))
      have HSL7 := Lib.hid (HSL6.out.apart o7 (Or.inr (by omega)))
      have HB7 := Lib.hid (HB6.out.trans (o7.below (B := w.heap.size) (by omega) (by omega)))
      obtain ⟨t1, t2, t3⟩ := bks_set [⟨p3, ⟨#[119, 97, 114, 100]⟩, am⟩] 0 (by simp) HG1.out
      have key : ∃ x' : Bk, GoodB [x'] ∧ Blk w8 w4.heap.size 26 (bks [x']).toArray ∧ Blk w8 w.heap.size 26 #[.int .i64 0, .string ⟨#[]⟩, .int .i64 0] ∧ Sl w8 w1.heap.size w2.heap.size 26 3 A' l.length d (bks l) ∧ Below w.heap.size w w8 ∧ w6.heap.size ≤ w8.heap.size := by
        have fin : ∀ (q : Nat) (z : Value) (l' : List Bk), l'.length = 1 → GoodB l' → (bks [⟨p3, ⟨#[119, 97, 114, 100]⟩, am⟩]).set q z = bks l' → w8 = w7.setCell ⟨w4.heap.size, q, none⟩ z → ∃ x' : Bk, GoodB [x'] ∧ Blk w8 w4.heap.size 26 (bks [x']).toArray ∧ Blk w8 w.heap.size 26 #[.int .i64 0, .string ⟨#[]⟩, .int .i64 0] ∧ Sl w8 w1.heap.size w2.heap.size 26 3 A' l.length d (bks l) ∧ Below w.heap.size w w8 ∧ w6.heap.size ≤ w8.heap.size := by
          intro q z l' e1 e2 e3 hw
          subst hw
          obtain ⟨x', rfl⟩ := List.length_eq_one_iff.1 e1
          refine ⟨x', e2, ?_, yz7.far (by simp; omega) _, HSL7.out.farSet (by simp; omega) _, HB7.out.setCell (by simp; omega) _, by simpa [World.setCell] using z7⟩
          refine (y7.set_ q z).cast2 ?_
          rw [← e3]; simp
        rcases hw8 with rfl | ⟨z, hz, hw⟩ | ⟨z, hz, hw⟩ | ⟨z, hz, hw⟩
        · exact ⟨_, HG1.out, y7, yz7, HSL7.out, HB7.out, z7⟩
        · obtain ⟨l', e1, e2, e3⟩ := t1 z hz
          exact fin 0 _ l' (by simpa using e1) e2 e3 hw
        · obtain ⟨l', e1, e2, e3⟩ := t2 z hz
          exact fin 1 _ l' (by simpa using e1) e2 e3 hw
        · obtain ⟨l', e1, e2, e3⟩ := t3 z hz
          exact fin 2 _ l' (by simpa using e1) e2 e3 hw
      have KEY := Lib.hid key
      clear key hw8 t1 t2 t3 k0 k1 k2 y6 y7 yz6 yz7 s6 s7 o7
      go_wp2_with fail
      go_meet
      exact KEY.out
  case rest => as_aux_lemma =>
    obtain ⟨x', hg', y8, yz8, sl8, b8, z8⟩ := hcut
    have HB8 := Lib.hid b8
    have HSL8 := Lib.hid sl8
    have HG8 := Lib.hid hg'
    clear b8 sl8 hg' y6 yz6 HB6 HSL6 s6
    obtain ⟨xd, xc, xa⟩ := x'
    have HZ := Lib.hid yz8
    simp only [bks, cellsBk, List.flatMap_cons, List.flatMap_nil, List.append_nil] at y8
    clear yz8
    go_wp2_with fail
    refine wp_region_held_drew (S := (fun W => Blk W w4.heap.size 26 #[.int .i64 xd, .string xc, .int .i64 xa])) (by kernel_rfl) ?_ (fun hHeld => ?_)
    · exact y8.drew
    refine wpAnyH_take (i := 0) (v := ?_) rfl (by kernel_rfl) (by kernel_rfl) (by kernel_rfl) (fun _ _ _ h => h) (Or.inl ⟨by kernel_rfl, ?_⟩) (by assumption) ?_
    rotate_left 1
    · intro w hSw; (try dsimp only at hSw); go_simp; try with_reducible rfl
    try simp only [Act.put, List.getElem_toArray, List.getElem_cons_succ, List.getElem_cons_zero, List.setIfInBounds_toArray, List.set_cons_zero, List.set_cons_succ]
    refine wpAnyH_take (i := 1) (v := ?_) rfl (by kernel_rfl) (by kernel_rfl) (by kernel_rfl) (fun _ _ _ h => h) (Or.inl ⟨by kernel_rfl, ?_⟩) (by assumption) ?_
    rotate_left 1
    · intro w hSw; (try dsimp only at hSw); (have l0 := hSw.cellAt 0 (by simp)); (have l1 := hSw.cellAt 1 (by simp)); (have l2 := hSw.cellAt 2 (by simp)); (simp only [List.getElem_toArray, List.getElem_cons_zero, List.getElem_cons_succ] at l0 l1 l2); go_simp; try with_reducible rfl
    try simp only [Act.put, List.getElem_toArray, List.getElem_cons_succ, List.getElem_cons_zero, List.setIfInBounds_toArray, List.set_cons_zero, List.set_cons_succ]
    refine wpAnyH_take (i := 2) (v := ?_) rfl (by kernel_rfl) (by kernel_rfl) (by kernel_rfl) (fun _ _ _ h => h) (Or.inl ⟨by kernel_rfl, ?_⟩) (by assumption) ?_
    rotate_left 1
    · intro w hSw; (try dsimp only at hSw); go_simp; try with_reducible rfl
    try simp only [Act.put, List.getElem_toArray, List.getElem_cons_succ, List.getElem_cons_zero, List.setIfInBounds_toArray, List.set_cons_zero, List.set_cons_succ]
    refine wpAnyH_ready (rs := [3]) (by kernel_rfl) (by simp) ?_
    refine AllReadyH.cons rfl (fun K hK => ?_) AllReadyH.nil
    have d0 := HZ.out.cellAt 0 (by simp)
    have f0 := HZ.out.frozen 0
    have d1 := HZ.out.cellAt 1 (by simp)
    have f1 := HZ.out.frozen 1
    have d2 := HZ.out.cellAt 2 (by simp)
    have f2 := HZ.out.frozen 2
    simp only [List.getElem_toArray, List.getElem_cons_zero, List.getElem_cons_succ] at d0 d1 d2
    go_simp
    refine hK.out _ _ ?_ (fun hNew => ?_)
    · exact ((((y8.far (by simp; omega) _).far (by simp; omega) _).far (by simp; omega) _).drew)
    clear hK K hHeld
    have hHeld := hNew
    clear hNew
    try simp only [Act.put, List.getElem_toArray, List.getElem_cons_succ, List.getElem_cons_zero, List.setIfInBounds_toArray, List.set_cons_zero, List.set_cons_succ]
    refine wpAnyH_done (by kernel_rfl) ?_ _
    obtain ⟨w9, hw9⟩ : ∃ y, (((wc.setCell ⟨w.heap.size, 0, none⟩ (.int .i64 xd)).setCell ⟨w.heap.size, 1, none⟩ (.string xc)).setCell ⟨w.heap.size, 2, none⟩ (.int .i64 xa)).drew = y := ⟨_, rfl⟩
    rw [hw9]
    have yz9 : Blk w9 w.heap.size 26 #[.int .i64 xd, .string xc, .int .i64 xa] := by
      rw [← hw9]
      exact ((((HZ.out.set_ 0 (.int .i64 xd)).set_ 1 (.string xc)).set_ 2 (.int .i64 xa)).drew).cast2 rfl
    have z9 := HB8.out.size
    have z9a : w9.heap.size = wc.heap.size := by rw [← hw9]; simp [World.setCell]
    have HB9 := Lib.hid (show Below w.heap.size w w9 by rw [← hw9]; exact ((((HB8.out.setCell (Nat.le_refl _) _).setCell (Nat.le_refl _) _).setCell (Nat.le_refl _) _).drew))
    have HS9 := Lib.hid (show Sl w9 (w.heap.size + 1) w2.heap.size 26 3 A' l.length d (bks l) by
      rw [← hw9]
      have q := (((HSL8.out.wide (lo' := w.heap.size + 1) (by omega) (Nat.le_refl _)).nearSet2 (p := ⟨w.heap.size, 0, none⟩) (Nat.lt_succ_self _) (.int .i64 xd)).nearSet2 (p := ⟨w.heap.size, 1, none⟩) (Nat.lt_succ_self _) (.string xc)).nearSet2 (p := ⟨w.heap.size, 2, none⟩) (Nat.lt_succ_self _) (.int .i64 xa)
      exact q)
    clear hHeld hw9
    have d0 := yz9.cellAt 0 (by simp)
    have d1 := yz9.cellAt 1 (by simp)
    have d2 := yz9.cellAt 2 (by simp)
    simp only [List.getElem_toArray, List.getElem_cons_zero, List.getElem_cons_succ] at d0 d1 d2
    go_wp2
    refine bodyPost_ret (v := .tuple #[.slice A' l.length d, .agg #[.int .i64 xd, .string xc, .int .i64 xa]]) ?_ rfl ?_
    · simp [results, Tryz.results8, go_sem, d0, d1, d2]
    exact ⟨l, A', d, ⟨xd, xc, xa⟩, rfl, HG8.out _ (by simp), hl, HG.out, HS9.out.wide (by omega) (by omega), HB9.out⟩

set_option maxHeartbeats 4000000 in
set_option maxRecDepth 100000 in
theorem drawBookingText_any (A : Option Addr) (n c : Nat) (bs : List Int) (w : World) (h : Reads w w.heap.size 1 A n (byts bs)) (hb : ∀ x ∈ bs, Byt x) (hn : n ≤ 9223372036854775807) :
    Calls Tryz.prog 20 #[.slice A n c] w fun e w' => ∃ x : Bk, e = .returned (.agg #[.int .i64 x.day, .string x.client, .int .i64 x.amount]) ∧ (x.good ∧ x.small) ∧ Below w.heap.size w w' := by
  have HH := Lib.hid h
  have HB := Lib.hid hb
  clear h hb
  go_enter Tryz.func20, Tryz.ntmps20
  go_wp2_with fail
  obtain ⟨wz, hwz⟩ : ∃ y, w.alloc (.cells #[.int .i64 0, .string ⟨#[]⟩, .int .i64 0] 26) = y := ⟨_, rfl⟩
  rw [hwz]
  have yz : Blk wz w.heap.size 26 #[.int .i64 0, .string ⟨#[]⟩, .int .i64 0] := by rw [← hwz]; exact Blk.new _ _ _
  have bz : Below w.heap.size w wz := by rw [← hwz]; exact (Below.refl _ _).alloc (Nat.le_refl _) _
  have zz : w.heap.size + 1 = wz.heap.size := by rw [← hwz]; simp
  clear hwz
  refine (l00From_any A n c bs _ ((HH.out.on (Nat.le_refl _) bz).more (by omega)) HB.out hn).mono ?_
  rintro e w1 ⟨rfl, s1, b1, z1⟩
  have yz1 := yz.on b1
  go_wp2_with fail
  refine (l25Bent_any _ 0 _ s1 (by omega)).mono ?_
  rintro e w2 ⟨l, A', d, rfl, hl, hgd, sl, s2, o2⟩
  have yz2 := yz1.only2 o2 (Or.inl (by omega))
  have z2 := o2.size
  have HG := Lib.hid hgd
  clear hgd yz yz1
  have HB2 := Lib.hid ((bz.trans (b1.mono (by omega))).trans (o2.below (by omega) (by omega)))
  have d0 := yz2.cellAt 0 (by simp)
  have d1 := yz2.cellAt 1 (by simp)
  have d2 := yz2.cellAt 2 (by simp)
  have f0 := yz2.frozen 0
  have f1 := yz2.frozen 1
  have f2 := yz2.frozen 2
  simp only [List.getElem_toArray, List.getElem_cons_zero, List.getElem_cons_succ] at d0 d1 d2
  clear o2 b1 bz s2
  rcases Nat.eq_zero_or_pos l.length with h0 | h0
  · have hd0 : ((l.length : Int) == 0) = true := by rw [h0]; rfl
    have hd1 : (l.length == 0) = true := by rw [h0]; rfl
    clear h0
    go_wp2
    refine bodyPost_ret (v := .agg #[.int .i64 0, .string ⟨#[]⟩, .int .i64 0]) (by simp [results, Tryz.results20, go_sem, d0, d1, d2]) rfl ?_
    exact ⟨⟨0, ⟨#[]⟩, 0⟩, rfl, good_bk ⟨by omega, by omega⟩ ⟨by omega, by omega⟩ (by decide), ((HB2.out.setCell (Nat.le_refl _) _).setCell (Nat.le_refl _) _).setCell (Nat.le_refl _) _⟩
  · have hd0 : ((l.length : Int) == 0) = false := by rw [beq_eq_false_iff_ne]; omega
    have hd1 : (l.length == 0) = false := by rw [beq_eq_false_iff_ne]; omega
    obtain ⟨go, rfl, hgo1, hgo2, hgo3⟩ := sl.lt h0
    obtain ⟨e0, e1, e2⟩ := bks_get (List.getElem?_eq_getElem h0)
    have q0 : w2.cell? ⟨go, 0, none⟩ = _ := (sl.cellAt (0 * 3) (by omega)).trans e0
    have q1 : w2.cell? ⟨go, 1, none⟩ = _ := (sl.cellAt (0 * 3 + 1) (by omega)).trans e1
    have q2 : w2.cell? ⟨go, 2, none⟩ = _ := (sl.cellAt (0 * 3 + 2) (by omega)).trans e2
    have hpos : (0 : Int) < l.length := by omega
    have HX := Lib.hid (HG.out _ (List.getElem_mem h0))
    generalize l[0] = x at *
    clear e0 e1 e2
    go_wp2
    refine bodyPost_ret (v := .agg #[.int .i64 x.day, .string x.client, .int .i64 x.amount]) (by simp [results, Tryz.results20, go_sem, d0, d1, d2]) rfl ?_
    exact ⟨x, rfl, HX.out, ((HB2.out.setCell (Nat.le_refl _) _).setCell (Nat.le_refl _) _).setCell (Nat.le_refl _) _⟩

theorem Sl.lo2 {w : World} {lo hi size n c : Nat} {t : TypeId} {A : Option Addr} {xs : List Value} (h : Sl w lo hi t size A n c xs) : ∀ ad, A = some ad → lo ≤ ad.block ∧ ad.block < hi := by
  intro ad had
  rcases h.form with ⟨h0, _⟩ | ⟨g, cur, hg, h2, h3, _⟩
  · rw [h0] at had; cases had
  · rw [hg] at had; injection had with had; subst had; exact ⟨h2, h3⟩
theorem Sl.at02 {w : World} {lo hi size n c : Nat} {t : TypeId} {A : Option Addr} {xs : List Value} (h : Sl w lo hi t size A n c xs) (hA : A ≠ none) : ∃ g, A = some ⟨g, 0, none⟩ ∧ lo ≤ g ∧ g < hi ∧ g < w.heap.size ∧ n ≤ c := by
  rcases h.form with ⟨h0, _⟩ | ⟨g, cur, hg, h2, h3, hb, hc, _⟩
  · exact absurd h0 hA
  · exact ⟨g, hg, h2, h3, hb.lt, hc⟩
theorem goodB_zero {l : List Bk} (h : GoodB l) : GoodB (l ++ [⟨0, ⟨#[]⟩, 0⟩]) := fun y hy => by
  rcases List.mem_append.1 hy with k | k
  · exact h y k
  · rw [List.mem_singleton] at k; subst k; exact good_bk ⟨by omega, by omega⟩ ⟨by omega, by omega⟩ (by decide)
set_option maxHeartbeats 4000000 in
set_option maxRecDepth 100000 in
theorem drawSameBookings_any (A : Option Addr) (n c : Nat) (bs : List Int) (w : World) (h : Reads w w.heap.size 1 A n (byts bs)) (hb : ∀ x ∈ bs, Byt x) (hn : n ≤ 9223372036854775807) :
    Calls Tryz.prog 19 #[.slice A n c] w fun e w' => ∃ (la : List Bk) (Aa : Option Addr) (da : Nat) (lb : List Bk) (Ab : Option Addr) (db : Nat), e = .returned (.tuple #[.slice Aa la.length da, .slice Ab lb.length db]) ∧ (la.length ≤ 81 ∧ GoodB la) ∧ (lb.length ≤ 82 ∧ GoodB lb) ∧ Sl w' w.heap.size w'.heap.size 26 3 Aa la.length da (bks la) ∧ Sl w' w.heap.size w'.heap.size 26 3 Ab lb.length db (bks lb) ∧ Below w.heap.size w w' := by
  have HH := Lib.hid h
  have HB := Lib.hid hb
  clear h hb
  go_enter Tryz.func19, Tryz.ntmps19
  go_wp2_with fail
  refine (l00From_any A n c bs _ HH.out HB.out hn).mono ?_
  rintro e w1 ⟨rfl, s1, b1, z1⟩
  have hg1 := s1.lt
  go_wp2_with fail
  refine (l25Draw_any _ 0 _ s1 (by omega)).mono ?_
  rintro e w2 ⟨l, A', d, rfl, hl, hgd, sl, s2, o2⟩
  have z2 := o2.size
  have HG := Lib.hid hgd
  have HB2 := Lib.hid (b1.trans (o2.below (Nat.le_refl _) (by omega)))
  obtain ⟨ga, rfl, ha1, ha2, ha3, ha4⟩ := sl.at02 hl.2
  have HSA := Lib.hid sl
  have hcells := Lib.hid (show ∀ j u, (bks l)[j]? = some u → (w2.alloc (.cells #[] 26)).cell? ⟨ga, 0 + j, none⟩ = some u from fun j u hu => by
    rcases Nat.eq_zero_or_pos l.length with h0 | h0
    · rw [List.length_eq_zero_iff.1 h0] at hu; simp [bks] at hu
    · obtain ⟨b', off', e, _, hc⟩ := ((sl.up (.cells #[] 26)).reads (B := w2.heap.size) (by omega)).at_ h0
      injection e with e; injection e with e e'; subst e; subst e'
      exact hc j u hu)
  have acc0 := Lib.hid (Acc.made w2 26 3)
  clear hgd sl o2 b1 s1
  rcases Nat.eq_zero_or_pos l.length with h0 | h0
  · have hd0 : decide ((0 : Int) < (l.length : Int)) = false := by rw [decide_eq_false_iff_not]; omega
    have hd1 : decide (0 < l.length) = false := by rw [decide_eq_false_iff_not]; omega
    clear h0
    go_wp2_with (at_builtin; refine wpList_accMany rfl _ _ 24 rfl 26 _ 3 32 Tryz.underlying24 info_bkD rfl (by decide) (by decide) acc0.out (Nat.le_refl _) rfl ga 0 l.length d (bks l) rfl (by rw [bks_length]) hcells.out (bks_one l) (by omega) ?_; intro A2 d2 w4 hacc2; rw [Nat.zero_add]; rw [Nat.zero_add, List.nil_append] at hacc2; have HA2 := Lib.hid hacc2; clear hacc2)
    have hbel := HA2.out.below (B := w2.heap.size) (Nat.le_refl _) (Nat.le_refl _)
    have z4 := hbel.size
    have s4 := s2.on hbel
    have HB4 := Lib.hid (bnext HB2.out hbel (by omega))
    have HSA4 := Lib.hid (HSA.out.on hbel)
    have HSB4 := Lib.hid (HA2.out.sl (Nat.le_refl _) (Nat.le_refl _))
    clear hbel HA2 acc0 hcells s2
    obtain ⟨w5, hw5⟩ : ∃ y, w4 = y := ⟨_, rfl⟩
    obtain ⟨lb, hlb⟩ : ∃ y, l = y := ⟨_, rfl⟩
    have HB5 := HB4
    have HSA5 := HSA4
    have HSB5 := Lib.hid (show Sl w4 w2.heap.size w4.heap.size 26 3 A2 l.length d2 (bks lb) by rw [← hlb]; exact HSB4.out)
    have s5 := s4
    have e1 : lb.length = l.length := by rw [hlb]
    have e2 : GoodB lb := by rw [← hlb]; exact HG.out
    clear hw5 HB4 HSA4 HSB4 hlb
    go_wp2_with fail
    refine (one_any _ _ 5 _ s5 (by omega) ⟨by omega, by omega⟩).mono ?_
    rintro e w6 ⟨b6, rfl, s6, o6⟩
    have z6 := o6.size
    have HB6 := Lib.hid (HB5.out.trans (o6.below (B := w.heap.size) (by omega) (by omega)))
    have HSA6 := Lib.hid (HSA5.out.apart o6 (Or.inr (by omega)))
    have hlb81 : lb.length ≤ 81 := by rw [e1]; exact hl.1
    have HSB6 := Lib.hid ((HSB5.out.apart o6 (Or.inr (by omega))).wide (Nat.le_refl _) (hi' := w6.heap.size) (by omega))
    clear o6 s5 HSA5 HSB5 HB5
    rcases b6 with _ | _
    · go_wp2
      go_ret2
      exact ⟨l, _, d, lb, _, _, by rw [e1]; rfl, ⟨hl.1, HG.out⟩, ⟨by omega, e2⟩, HSA6.out.wide (by omega) (by omega), by rw [e1]; exact HSB6.out.wide (by omega) (by omega), HB6.out⟩
    · clear s6
      go_wp2_with (at_builtin; refine wpList_oneF rfl _ _ 24 rfl 26 _ 3 32 Tryz.underlying24 info_bkD rfl (by decide) (by decide) HSB6.out (by omega) rfl (cellsBk ⟨0, ⟨#[]⟩, 0⟩) _ rfl rfl rfl (bk_oneD _) (by omega) ?_; intro A10 d10 w10 sl10 b10 z10 f10 g10; have HSL10 := Lib.hid sl10; have HB10 := Lib.hid b10; have HSA10 := Lib.hid (HSA6.out.keep (w' := w10) fun q hq1 hq2 hq3 => f10 q hq3 (fun ad had => by have := HSB6.out.lo2 ad had; omega)); clear sl10 b10 f10 g10)
      go_ret2
      exact ⟨l, _, d, lb ++ [⟨0, ⟨#[]⟩, 0⟩], _, _, by rw [List.length_append, e1]; rfl, ⟨hl.1, HG.out⟩, ⟨by simp; omega, goodB_zero e2⟩, HSA10.out.wide (by omega) (by omega), by have q := HSL10.out; rw [bks_snocD] at q; rw [List.length_append, e1]; exact q.wide (by omega) (Nat.le_refl _), HB6.out.trans (HB10.out.mono (by omega))⟩
  · have hd0 : decide ((0 : Int) < (l.length : Int)) = true := by rw [decide_eq_true_iff]; omega
    have hpos : (0 : Int) < l.length := by omega
    go_wp2_with (at_builtin; refine wpList_accMany rfl _ _ 24 rfl 26 _ 3 32 Tryz.underlying24 info_bkD rfl (by decide) (by decide) acc0.out (Nat.le_refl _) rfl ga 0 l.length d (bks l) rfl (by rw [bks_length]) hcells.out (bks_one l) (by omega) ?_; intro A2 d2 w4 hacc2; rw [Nat.zero_add]; rw [Nat.zero_add, List.nil_append] at hacc2; have HA2 := Lib.hid hacc2; clear hacc2)
    have hbel := HA2.out.below (B := w2.heap.size) (Nat.le_refl _) (Nat.le_refl _)
    have z4 := hbel.size
    have s4 := s2.on hbel
    have HB4 := Lib.hid (bnext HB2.out hbel (by omega))
    have HSA4 := Lib.hid (HSA.out.on hbel)
    have HSB4 := Lib.hid (HA2.out.sl (Nat.le_refl _) (Nat.le_refl _))
    clear hbel HA2 acc0 hcells s2
    refine (one_any _ _ 2 _ s4 (by omega) ⟨by omega, by omega⟩).mono ?_
    rintro e w5 ⟨b5, rfl, s5, o5⟩
    have z5 := o5.size
    have HB5 := Lib.hid (HB4.out.trans (o5.below (B := w.heap.size) (by omega) (by omega)))
    have HSA5 := Lib.hid (HSA4.out.apart o5 (Or.inr (by omega)))
    have HSB5 := Lib.hid ((HSB4.out.apart o5 (Or.inr (by omega))).wide (Nat.le_refl _) (hi' := w5.heap.size) (by omega))
    clear o5 s4 HSA4 HSB4 HB4
    rcases b5 with _ | _
    · obtain ⟨lb, hlb⟩ : ∃ y, l = y := ⟨_, rfl⟩
      replace HSB5 := Lib.hid (show Sl w5 w2.heap.size w5.heap.size 26 3 A2 l.length d2 (bks lb) by rw [← hlb]; exact HSB5.out)
      have e1 : lb.length = l.length := by rw [hlb]
      have e2 : GoodB lb := by rw [← hlb]; exact HG.out
      clear hlb
      go_wp2_with fail
      refine (one_any _ _ 5 _ s5 (by omega) ⟨by omega, by omega⟩).mono ?_
      rintro e w6 ⟨b6, rfl, s6, o6⟩
      have z6 := o6.size
      have HB6 := Lib.hid (HB5.out.trans (o6.below (B := w.heap.size) (by omega) (by omega)))
      have HSA6 := Lib.hid (HSA5.out.apart o6 (Or.inr (by omega)))
      have hlb81 : lb.length ≤ 81 := by rw [e1]; exact hl.1
      have HSB6 := Lib.hid ((HSB5.out.apart o6 (Or.inr (by omega))).wide (Nat.le_refl _) (hi' := w6.heap.size) (by omega))
      clear o6 s5 HSA5 HSB5 HB5
      rcases b6 with _ | _
      · go_wp2
        go_ret2
        exact ⟨l, _, d, lb, _, _, by rw [e1]; rfl, ⟨hl.1, HG.out⟩, ⟨by omega, e2⟩, HSA6.out.wide (by omega) (by omega), by rw [e1]; exact HSB6.out.wide (by omega) (by omega), HB6.out⟩
      · clear s6
        go_wp2_with (at_builtin; refine wpList_oneF rfl _ _ 24 rfl 26 _ 3 32 Tryz.underlying24 info_bkD rfl (by decide) (by decide) HSB6.out (by omega) rfl (cellsBk ⟨0, ⟨#[]⟩, 0⟩) _ rfl rfl rfl (bk_oneD _) (by omega) ?_; intro A10 d10 w10 sl10 b10 z10 f10 g10; have HSL10 := Lib.hid sl10; have HB10 := Lib.hid b10; have HSA10 := Lib.hid (HSA6.out.keep (w' := w10) fun q hq1 hq2 hq3 => f10 q hq3 (fun ad had => by have := HSB6.out.lo2 ad had; omega)); clear sl10 b10 f10 g10)
        go_ret2
        exact ⟨l, _, d, lb ++ [⟨0, ⟨#[]⟩, 0⟩], _, _, by rw [List.length_append, e1]; rfl, ⟨hl.1, HG.out⟩, ⟨by simp; omega, goodB_zero e2⟩, HSA10.out.wide (by omega) (by omega), by have q := HSL10.out; rw [bks_snocD] at q; rw [List.length_append, e1]; exact q.wide (by omega) (Nat.le_refl _), HB6.out.trans (HB10.out.mono (by omega))⟩
    · obtain ⟨gb, rfl, hb1, hb2, hb3⟩ := HSB5.out.lt h0
      obtain ⟨y, hy⟩ : ∃ y, l[0]? = some y := ⟨_, List.getElem?_eq_getElem h0⟩
      obtain ⟨hy4, _, _⟩ := bks_get hy
      have c4 : w5.cell? ⟨gb, 0, none⟩ = some (.int .i64 y.day) := (HSB5.out.cellAt 0 (by omega)).trans hy4
      have f4 : w5.frozen? ⟨gb, 0, none⟩ = false := HSB5.out.frozenAt 0
      have hyq := (HG.out y (List.mem_of_getElem? hy)).1.1
      clear hy
      obtain ⟨w4, hw4⟩ : ∃ y', w5 = y' := ⟨_, rfl⟩
      subst hw4
      go_wp2_with fail

      have s4d : Src w.heap.size (0 + 1000 + 2) w5.drew := s5.keep fun _ _ => rfl
      clear s5
      refine wp_region_any (by kernel_rfl) ?_
      try (change wpAny _ _ _ _ _ _ _ (World.drew _))
      refine wpAny_take (i := 0) (v := ?_) rfl (by kernel_rfl) (by kernel_rfl) (by kernel_rfl) (fun _ _ _ h => h) (Or.inl ⟨by kernel_rfl, ?_⟩) ?_
      rotate_left 1
      · intro w; go_simp; try with_reducible rfl
      try simp only [Act.put, List.getElem_toArray, List.getElem_cons_succ, List.getElem_cons_zero, List.setIfInBounds_toArray, List.set_cons_zero, List.set_cons_succ]
      refine wpAny_take (i := 1) (v := ?_) rfl (by kernel_rfl) (by kernel_rfl) (by kernel_rfl) (fun _ _ _ h => h) (Or.inl ⟨by kernel_rfl, ?_⟩) ?_
      rotate_left 1
      · intro w; go_simp; try with_reducible rfl
      try simp only [Act.put, List.getElem_toArray, List.getElem_cons_succ, List.getElem_cons_zero, List.setIfInBounds_toArray, List.set_cons_zero, List.set_cons_succ]
      refine wpAny_take (i := 2) (v := ?_) rfl (by kernel_rfl) (by kernel_rfl) (by kernel_rfl) (fun _ _ _ h => h) (Or.inl ⟨by kernel_rfl, ?_⟩) ?_
      rotate_left 1
      · intro w; go_simp; try with_reducible rfl
      try simp only [Act.put, List.getElem_toArray, List.getElem_cons_succ, List.getElem_cons_zero, List.setIfInBounds_toArray, List.set_cons_zero, List.set_cons_succ]
      refine wpAny_take (i := 4) (v := ?_) rfl (by kernel_rfl) (by kernel_rfl) (by kernel_rfl) (fun _ _ _ h => h) (Or.inl ⟨by kernel_rfl, ?_⟩) ?_
      rotate_left 1
      · intro w; go_simp; try with_reducible rfl
      try simp only [Act.put, List.getElem_toArray, List.getElem_cons_succ, List.getElem_cons_zero, List.setIfInBounds_toArray, List.set_cons_zero, List.set_cons_succ]
      refine wpAny_ready (rs := [3, 5]) (by kernel_rfl) (by simp) (AllReady.cons rfl (fun K hK => ?_) (AllReady.cons rfl (fun K hK => ?_) AllReady.nil))
      · go_simp
        refine hK _ _ ?_
        clear hK K
        try simp only [Act.put, List.getElem_toArray, List.getElem_cons_succ, List.getElem_cons_zero, List.setIfInBounds_toArray, List.set_cons_zero, List.set_cons_succ]
        refine wpAny_ready (rs := [5]) (by kernel_rfl) (by simp) (AllReady.cons rfl (fun K hK => ?_) AllReady.nil)
        go_simp
        refine (pick_any _ _ 2 _ s4d (by omega) ⟨by omega, by omega⟩).mono ?_
        rintro e u5 ⟨x5, rfl, hx5, s5u, o5u⟩
        have hx5a := hx5.lt (by omega)
        have hx5b := hx5.1
        have zu := o5u.size
        have zu' : w5.heap.size ≤ u5.heap.size := zu
        have HSAu := Lib.hid ((HSA5.out.keep (w' := w5.drew) fun _ _ _ _ => rfl).apart o5u (Or.inr (by omega)))
        have HSBu := Lib.hid ((HSB5.out.keep (w' := w5.drew) fun _ _ _ _ => rfl).apart o5u (Or.inr (by omega)))
        have HBu := Lib.hid (show Below w.heap.size w u5 from HB5.out.trans (show Below w.heap.size w5 u5 from (show Only w.heap.size (w.heap.size + 1) w5 u5 from ⟨o5u.os, o5u.tape, o5u.output, o5u.size, o5u.block⟩).below (Nat.le_refl _) (by omega)))
        have k4 : u5.cell? ⟨gb, 0, none⟩ = some (.int .i64 y.day) := (HSBu.out.cellAt 0 (by omega)).trans hy4
        have q4 : u5.frozen? ⟨gb, 0, none⟩ = false := HSBu.out.frozenAt 0
        clear hx5 o5u c4 f4 s4d
        go_wp2
        try simp only [Act.put, List.getElem_toArray, List.getElem_cons_succ, List.getElem_cons_zero, List.setIfInBounds_toArray, List.set_cons_zero, List.set_cons_succ]
        refine wpAny_take (i := 6) (v := ?_) rfl (by kernel_rfl) (by kernel_rfl) (by kernel_rfl) (fun _ _ _ h => h) (Or.inl ⟨by kernel_rfl, ?_⟩) ?_
        rotate_left 1
        · intro w; go_simp; try with_reducible rfl
        try simp only [Act.put, List.getElem_toArray, List.getElem_cons_succ, List.getElem_cons_zero, List.setIfInBounds_toArray, List.set_cons_zero, List.set_cons_succ]
        refine wpAny_take (i := 7) (v := ?_) rfl (by kernel_rfl) (by kernel_rfl) (by kernel_rfl) (fun _ _ _ h => h) (Or.inl ⟨by kernel_rfl, ?_⟩) ?_
        rotate_left 1
        · intro w; go_simp; try with_reducible rfl
        try simp only [Act.put, List.getElem_toArray, List.getElem_cons_succ, List.getElem_cons_zero, List.setIfInBounds_toArray, List.set_cons_zero, List.set_cons_succ]
        refine wpAny_take (i := 8) (v := ?_) rfl (by kernel_rfl) (by kernel_rfl) (by kernel_rfl) (fun _ _ _ h => h) (Or.inl ⟨by kernel_rfl, ?_⟩) ?_
        rotate_left 1
        · intro w; go_simp; try with_reducible rfl
        try simp only [Act.put, List.getElem_toArray, List.getElem_cons_succ, List.getElem_cons_zero, List.setIfInBounds_toArray, List.set_cons_zero, List.set_cons_succ]
        refine wpAny_ready (rs := [9]) (by kernel_rfl) (by simp) (AllReady.cons rfl (fun K hK => ?_) AllReady.nil)
        go_simp
        refine hK _ _ ?_
        clear hK K
        try simp only [Act.put, List.getElem_toArray, List.getElem_cons_succ, List.getElem_cons_zero, List.setIfInBounds_toArray, List.set_cons_zero, List.set_cons_succ]
        refine wpAny_done (by kernel_rfl) ?_ _
        obtain ⟨w6, hw5⟩ : ∃ y', u5.setCell ⟨gb, 0, none⟩ (.int .i64 (IntKind.i64.wrap (y.day + x5))) = y' := ⟨_, rfl⟩
        rw [hw5]
        obtain ⟨lb, e1, e2, e3⟩ := (bks_set l 0 h0 HG.out).1 (IntKind.i64.wrap (y.day + x5)) ⟨by rw [IntKind.wrap_i64]; omega, by rw [IntKind.wrap_i64]; omega⟩
        have z5 : w6.heap.size = u5.heap.size := by rw [← hw5]; simp [World.setCell]
        have HB6 := Lib.hid (show Below w.heap.size w w6 by rw [← hw5]; exact HBu.out.setCell (by simp; omega) _)
        have HSA6x := Lib.hid (show Sl w6 w1.heap.size w2.heap.size 26 3 (some ⟨ga, 0, none⟩) l.length d (bks l) by rw [← hw5]; exact HSAu.out.farSet (by simp; omega) _)
        have HSB6x := Lib.hid (show Sl w6 w2.heap.size w6.heap.size 26 3 (some ⟨gb, 0, none⟩) l.length d2 (bks lb) by
          rw [← e3, ← hw5]
          exact (HSBu.out.set_ (0 * 3) _).wide (Nat.le_refl _) (by simp [World.setCell]; omega))
        have s5 : Src w.heap.size (0 + 1000 + 2 + 2) w6 := by rw [← hw5]; exact s5u.set_ (by simp; omega) _
        clear hw5 s5u k4 q4 HBu HSAu HSBu HB5 HSA5 HSB5 e3
        go_wp2_with fail
        refine (one_any _ _ 5 _ s5 (by omega) ⟨by omega, by omega⟩).mono ?_
        rintro e w7 ⟨b6, rfl, s6, o6⟩
        have z6 := o6.size
        have HB7 := Lib.hid (HB6.out.trans (o6.below (B := w.heap.size) (by omega) (by omega)))
        have HSA6 := Lib.hid (HSA6x.out.apart o6 (Or.inr (by omega)))
        have hlb81 : lb.length ≤ 81 := by rw [e1]; exact hl.1
        have HSB6 := Lib.hid ((HSB6x.out.apart o6 (Or.inr (by omega))).wide (Nat.le_refl _) (hi' := w7.heap.size) (by omega))
        clear o6 s5 HSA6x HSB6x HB6
        rcases b6 with _ | _
        · go_wp2
          go_ret2
          exact ⟨l, _, d, lb, _, _, by rw [e1]; rfl, ⟨hl.1, HG.out⟩, ⟨by omega, e2⟩, HSA6.out.wide (by omega) (by omega), by rw [e1]; exact HSB6.out.wide (by omega) (by omega), HB7.out⟩
        · clear s6
          go_wp2_with (at_builtin; refine wpList_oneF rfl _ _ 24 rfl 26 _ 3 32 Tryz.underlying24 info_bkD rfl (by decide) (by decide) HSB6.out (by omega) rfl (cellsBk ⟨0, ⟨#[]⟩, 0⟩) _ rfl rfl rfl (bk_oneD _) (by omega) ?_; intro A10 d10 w10 sl10 b10 z10 f10 g10; have HSL10 := Lib.hid sl10; have HB10 := Lib.hid b10; have HSA10 := Lib.hid (HSA6.out.keep (w' := w10) fun q hq1 hq2 hq3 => f10 q hq3 (fun ad had => by have := HSB6.out.lo2 ad had; omega)); clear sl10 b10 f10 g10)
          go_ret2
          exact ⟨l, _, d, lb ++ [⟨0, ⟨#[]⟩, 0⟩], _, _, by rw [List.length_append, e1]; rfl, ⟨hl.1, HG.out⟩, ⟨by simp; omega, goodB_zero e2⟩, HSA10.out.wide (by omega) (by omega), by have q := HSL10.out; rw [bks_snocD] at q; rw [List.length_append, e1]; exact q.wide (by omega) (Nat.le_refl _), HB7.out.trans (HB10.out.mono (by omega))⟩
      · go_simp
        refine (pick_any _ _ 2 _ s4d (by omega) ⟨by omega, by omega⟩).mono ?_
        rintro e u5 ⟨x5, rfl, hx5, s5u, o5u⟩
        have hx5a := hx5.lt (by omega)
        have hx5b := hx5.1
        have zu := o5u.size
        have zu' : w5.heap.size ≤ u5.heap.size := zu
        have HSAu := Lib.hid ((HSA5.out.keep (w' := w5.drew) fun _ _ _ _ => rfl).apart o5u (Or.inr (by omega)))
        have HSBu := Lib.hid ((HSB5.out.keep (w' := w5.drew) fun _ _ _ _ => rfl).apart o5u (Or.inr (by omega)))
        have HBu := Lib.hid (show Below w.heap.size w u5 from HB5.out.trans (show Below w.heap.size w5 u5 from (show Only w.heap.size (w.heap.size + 1) w5 u5 from ⟨o5u.os, o5u.tape, o5u.output, o5u.size, o5u.block⟩).below (Nat.le_refl _) (by omega)))
        have k4 : u5.cell? ⟨gb, 0, none⟩ = some (.int .i64 y.day) := (HSBu.out.cellAt 0 (by omega)).trans hy4
        have q4 : u5.frozen? ⟨gb, 0, none⟩ = false := HSBu.out.frozenAt 0
        clear hx5 o5u c4 f4 s4d
        go_wp2
        try simp only [Act.put, List.getElem_toArray, List.getElem_cons_succ, List.getElem_cons_zero, List.setIfInBounds_toArray, List.set_cons_zero, List.set_cons_succ]
        refine wpAny_ready (rs := [3]) (by kernel_rfl) (by simp) (AllReady.cons rfl (fun K hK => ?_) AllReady.nil)
        go_simp
        refine hK _ _ ?_
        clear hK K
        try simp only [Act.put, List.getElem_toArray, List.getElem_cons_succ, List.getElem_cons_zero, List.setIfInBounds_toArray, List.set_cons_zero, List.set_cons_succ]
        refine wpAny_take (i := 6) (v := ?_) rfl (by kernel_rfl) (by kernel_rfl) (by kernel_rfl) (fun _ _ _ h => h) (Or.inl ⟨by kernel_rfl, ?_⟩) ?_
        rotate_left 1
        · intro w; go_simp; try with_reducible rfl
        try simp only [Act.put, List.getElem_toArray, List.getElem_cons_succ, List.getElem_cons_zero, List.setIfInBounds_toArray, List.set_cons_zero, List.set_cons_succ]
        refine wpAny_take (i := 7) (v := ?_) rfl (by kernel_rfl) (by kernel_rfl) (by kernel_rfl) (fun _ _ _ h => h) (Or.inl ⟨by kernel_rfl, ?_⟩) ?_
        rotate_left 1
        · intro w; go_simp; try with_reducible rfl
        try simp only [Act.put, List.getElem_toArray, List.getElem_cons_succ, List.getElem_cons_zero, List.setIfInBounds_toArray, List.set_cons_zero, List.set_cons_succ]
        refine wpAny_take (i := 8) (v := ?_) rfl (by kernel_rfl) (by kernel_rfl) (by kernel_rfl) (fun _ _ _ h => h) (Or.inl ⟨by kernel_rfl, ?_⟩) ?_
        rotate_left 1
        · intro w; go_simp; try with_reducible rfl
        try simp only [Act.put, List.getElem_toArray, List.getElem_cons_succ, List.getElem_cons_zero, List.setIfInBounds_toArray, List.set_cons_zero, List.set_cons_succ]
        refine wpAny_ready (rs := [9]) (by kernel_rfl) (by simp) (AllReady.cons rfl (fun K hK => ?_) AllReady.nil)
        go_simp
        refine hK _ _ ?_
        clear hK K
        try simp only [Act.put, List.getElem_toArray, List.getElem_cons_succ, List.getElem_cons_zero, List.setIfInBounds_toArray, List.set_cons_zero, List.set_cons_succ]
        refine wpAny_done (by kernel_rfl) ?_ _
        obtain ⟨w6, hw5⟩ : ∃ y', u5.setCell ⟨gb, 0, none⟩ (.int .i64 (IntKind.i64.wrap (y.day + x5))) = y' := ⟨_, rfl⟩
        rw [hw5]
        obtain ⟨lb, e1, e2, e3⟩ := (bks_set l 0 h0 HG.out).1 (IntKind.i64.wrap (y.day + x5)) ⟨by rw [IntKind.wrap_i64]; omega, by rw [IntKind.wrap_i64]; omega⟩
        have z5 : w6.heap.size = u5.heap.size := by rw [← hw5]; simp [World.setCell]
        have HB6 := Lib.hid (show Below w.heap.size w w6 by rw [← hw5]; exact HBu.out.setCell (by simp; omega) _)
        have HSA6x := Lib.hid (show Sl w6 w1.heap.size w2.heap.size 26 3 (some ⟨ga, 0, none⟩) l.length d (bks l) by rw [← hw5]; exact HSAu.out.farSet (by simp; omega) _)
        have HSB6x := Lib.hid (show Sl w6 w2.heap.size w6.heap.size 26 3 (some ⟨gb, 0, none⟩) l.length d2 (bks lb) by
          rw [← e3, ← hw5]
          exact (HSBu.out.set_ (0 * 3) _).wide (Nat.le_refl _) (by simp [World.setCell]; omega))
        have s5 : Src w.heap.size (0 + 1000 + 2 + 2) w6 := by rw [← hw5]; exact s5u.set_ (by simp; omega) _
        clear hw5 s5u k4 q4 HBu HSAu HSBu HB5 HSA5 HSB5 e3
        go_wp2_with fail
        refine (one_any _ _ 5 _ s5 (by omega) ⟨by omega, by omega⟩).mono ?_
        rintro e w7 ⟨b6, rfl, s6, o6⟩
        have z6 := o6.size
        have HB7 := Lib.hid (HB6.out.trans (o6.below (B := w.heap.size) (by omega) (by omega)))
        have HSA6 := Lib.hid (HSA6x.out.apart o6 (Or.inr (by omega)))
        have hlb81 : lb.length ≤ 81 := by rw [e1]; exact hl.1
        have HSB6 := Lib.hid ((HSB6x.out.apart o6 (Or.inr (by omega))).wide (Nat.le_refl _) (hi' := w7.heap.size) (by omega))
        clear o6 s5 HSA6x HSB6x HB6
        rcases b6 with _ | _
        · go_wp2
          go_ret2
          exact ⟨l, _, d, lb, _, _, by rw [e1]; rfl, ⟨hl.1, HG.out⟩, ⟨by omega, e2⟩, HSA6.out.wide (by omega) (by omega), by rw [e1]; exact HSB6.out.wide (by omega) (by omega), HB7.out⟩
        · clear s6
          go_wp2_with (at_builtin; refine wpList_oneF rfl _ _ 24 rfl 26 _ 3 32 Tryz.underlying24 info_bkD rfl (by decide) (by decide) HSB6.out (by omega) rfl (cellsBk ⟨0, ⟨#[]⟩, 0⟩) _ rfl rfl rfl (bk_oneD _) (by omega) ?_; intro A10 d10 w10 sl10 b10 z10 f10 g10; have HSL10 := Lib.hid sl10; have HB10 := Lib.hid b10; have HSA10 := Lib.hid (HSA6.out.keep (w' := w10) fun q hq1 hq2 hq3 => f10 q hq3 (fun ad had => by have := HSB6.out.lo2 ad had; omega)); clear sl10 b10 f10 g10)
          go_ret2
          exact ⟨l, _, d, lb ++ [⟨0, ⟨#[]⟩, 0⟩], _, _, by rw [List.length_append, e1]; rfl, ⟨hl.1, HG.out⟩, ⟨by simp; omega, goodB_zero e2⟩, HSA10.out.wide (by omega) (by omega), by have q := HSL10.out; rw [bks_snocD] at q; rw [List.length_append, e1]; exact q.wide (by omega) (Nat.le_refl _), HB7.out.trans (HB10.out.mono (by omega))⟩

end Go.Proofs.YtjmlcobbjpmjpaaGreatDoor
namespace Go.Proofs.YtjmlcobbjpmjpaaGreatDoor
open Go.RowKit
theorem Blk.apart {w w' : World} {g lo hi : Nat} {t : TypeId} {cs : Array Value} (h : Blk w g t cs) (ho : Only lo hi w w') (hd : g < lo ∨ hi ≤ g) : Blk w' g t cs := (ho.block g h.lt hd).trans h
end Go.Proofs.YtjmlcobbjpmjpaaGreatDoor
namespace Go.Proofs.YtjmlcobbjpmjpaaGreatDoor
open Go.RowKit

theorem iszBk : (Tryz.prog.info? 26).map (·.size) = some 3 := by kernel_rfl
theorem iovBk (w : World) (vb g o lb cb : Nat) (t : TypeId) (vs cur : List Value) (hv : Blk w vb t vs.toArray) (hg : Blk w g t cur.toArray) (hne : vb ≠ g) (hk : cur.length ≠ 0) :
    (callFunc 136 #[.slice (some ⟨vb, 0, none⟩) 1 1, .slice (some ⟨g, o, none⟩) lb cb]).run Tryz.prog w = .ok (.value (.bool false)) w := by
  have hsz : ∀ w, (Go.sizeOf 26).run Tryz.prog w = .ok 3 w := fun w => by kernel_rfl
  have hsa : w.shape? vb = some (t, vs.length) := by
    unfold Blk at hv
    simp [World.shape?, hv]
  have hsb : w.shape? g = some (t, cur.length) := by
    unfold Blk at hg
    simp [World.shape?, hg]
  rw [run_callFunc_extern (fn := Tryz.f136) (by kernel_rfl) (by kernel_rfl) (by kernel_rfl) (by kernel_rfl) (e := Extern.SlicesOverlaps.overlaps #[24, 24] #[4]) (by kernel_rfl),
    Lib.run_overlaps_apart w 24 4 26 Tryz.underlying24 3 hsz ⟨vb, 0, none⟩ ⟨g, o, none⟩ 1 1 lb cb hne t t vs.length cur.length hsa hsb hk (hv.frozen 0) (hv.frozen _)]
  rfl

set_option maxHeartbeats 4000000 in
set_option maxRecDepth 100000 in
theorem insBk_end (g n c vb lo hi : Nat) (xs vs : List Value) (w : World) (h : Sl w lo hi 26 3 (some ⟨g, 0, none⟩) n c xs) (hhi : hi ≤ w.heap.size) (hn : n ≤ 1000000) (hc : c ≤ 9223372036854775807) (hv : Blk w vb 26 vs.toArray) (hvl : vs.length = 3) (h1v : ∀ u ∈ vs, u.oneCell' = true) :
    Calls Tryz.prog 65 #[.slice (some ⟨g, 0, none⟩) n c, .int .i64 n, .slice (some ⟨vb, 0, none⟩) 1 1] w fun e w' => ∃ A' c', e = .returned (.slice A' (n + 1) c') ∧ Sl w' lo w'.heap.size 26 3 A' (n + 1) c' (xs ++ vs) ∧ Only lo w.heap.size w w' := by
  have hg1 : lo ≤ g := by
    rcases h.form with ⟨h0, _⟩ | ⟨g', _, e, h1, _⟩
    · cases h0
    · injection e with e; injection e with e; omega
  have hg2 : g < hi := h.2 _ rfl
  have acc0 := Lib.hid (Acc.start (b0 := g) h (fun a ha => by injection ha with ha; subst ha; rfl) w.heap.size)
  have hcells := Lib.hid (show ∀ j u, vs[j]? = some u → w.cell? ⟨vb, 0 + j, none⟩ = some u from fun j u hu => by rw [Nat.zero_add, hv.cell]; simpa using hu)
  have hnc : n ≤ c := by
    rcases h.form with ⟨h0, _⟩ | ⟨g', _, e, _, _, _, hh, _⟩
    · cases h0
    · exact hh
  have HV1 := Lib.hid h1v
  clear h hv h1v
  by_cases hcn : c = n
  · subst hcn
    go_enter Tryz.func65, Tryz.ntmps65
    go_wp2_with (at_builtin; refine wpList_accMany rfl _ _ 24 rfl 26 _ 3 32 Tryz.underlying24 info_bk rfl (by decide) (by decide) acc0.out (Nat.le_refl _) rfl vb 0 1 1 vs rfl (by omega) hcells.out HV1.out (by omega) ?_; intro A2 d2 w9 hacc2; have HA2 := Lib.hid hacc2; clear hacc2)
    go_ret
    exact ⟨_, _, rfl, HA2.out.sl hg1 (by omega), ⟨HA2.out.os, HA2.out.tape, HA2.out.output, HA2.out.size, fun k hk hd => HA2.out.block k hk (by omega)⟩⟩
  · go_enter Tryz.func65, Tryz.ntmps65
    go_wp2_with (at_builtin; refine wpList_accMany rfl _ _ 24 rfl 26 _ 3 32 Tryz.underlying24 info_bk rfl (by decide) (by decide) acc0.out (Nat.le_refl _) rfl vb 0 1 1 vs rfl (by omega) hcells.out HV1.out (by omega) ?_; intro A2 d2 w9 hacc2; have HA2 := Lib.hid hacc2; clear hacc2)
    go_ret
    exact ⟨_, _, rfl, HA2.out.sl hg1 (by omega), ⟨HA2.out.os, HA2.out.tape, HA2.out.output, HA2.out.size, fun k hk hd => HA2.out.block k hk (by omega)⟩⟩

set_option maxHeartbeats 4000000 in
set_option maxRecDepth 100000 in
theorem insBk_shift (g n c i vb lo hi : Nat) (cur xs vs : List Value) (w : World) (hB : Blk w g 26 cur.toArray) (hcs : cur.length = c * 3) (hx : cur.take (n * 3) = xs) (hg1 : lo ≤ g) (hg2 : g < hi) (hhi : hi ≤ w.heap.size) (hi' : i < n) (hnc : n + 1 ≤ c) (hn : n ≤ 1000000) (hc : c ≤ maxLen) (h1x : ∀ u ∈ xs, u.oneCell' = true) (hv : Blk w vb 26 vs.toArray) (hvl : vs.length = 3) (hvb : vb ≠ g) (h1v : ∀ u ∈ vs, u.oneCell' = true) :
    Calls Tryz.prog 65 #[.slice (some ⟨g, 0, none⟩) n c, .int .i64 i, .slice (some ⟨vb, 0, none⟩) 1 1] w fun e w' => ∃ A' c', e = .returned (.slice A' (n + 1) c') ∧ Sl w' lo w'.heap.size 26 3 A' (n + 1) c' (xs.take (i * 3) ++ vs ++ xs.drop (i * 3)) ∧ Only lo w.heap.size w w' := by
  have hxl : xs.length = n * 3 := by rw [← hx]; simp; omega
  have HFin := Lib.hid (splice_shift (cur := cur) (xs := xs) (vs := vs) (p := i * 3) (q := 3) (N := n * 3) hx (by omega) hvl (by omega))
  have hov := iovBk w vb g
  have HOv := Lib.hid (fun o lb cb => iovBk w vb g o lb cb 26 vs cur hv hB hvb (by omega))
  clear hov
  obtain ⟨ys, hys⟩ : ∃ ys, ys = xs.drop (i * 3) := ⟨_, rfl⟩
  have hyl : ys.length = (n - i) * 3 := by rw [hys, List.length_drop]; omega
  have h1y : ∀ u ∈ ys, u.oneCell' = true := fun u hu => h1x u (List.mem_of_mem_drop (by rw [hys] at hu; exact hu))
  have HY1 := Lib.hid h1y
  have HYL := Lib.hid hyl
  have HNe := Lib.hid hvb
  have HVl := Lib.hid hvl
  have HXl := Lib.hid hxl
  have HV1 := Lib.hid h1v
  have HYS := Lib.hid hys
  have hsrc := Lib.hid (show ∀ j u, ys[j]? = some u → w.cell? ⟨g, i * 3 + j, none⟩ = some u from fun j u hu => by
    rw [hys, List.getElem?_drop] at hu
    rw [hB.cell, List.getElem?_toArray]
    rw [← hx, List.getElem?_take] at hu
    split at hu
    · exact hu
    · cases hu)
  have HBl := Lib.hid hB
  have HVb := Lib.hid hv
  have hw1 : IntKind.i64.wrap ((i : Int) + 1) = (i : Int) + 1 := by rw [IntKind.wrap_i64]; omega
  have hw2 : IntKind.i64.wrap ((n : Int) + 1) = (n : Int) + 1 := by rw [IntKind.wrap_i64]; unfold maxLen at hc; omega
  have hb1 : (0 : Int) ≤ (i : Int) + 1 := by omega
  have htn : ((i : Int) + 1).toNat = i + 1 := by omega
  have htn2 : ((n : Int) + 1).toNat = n + 1 := by omega
  have hz2 : ¬ ((i : Int) = (n : Int)) := by omega
  have hz3 : decide ((c : Int) < (n : Int) + 1) = false := decide_eq_false (by omega)
  have hb2 : ¬ (c = i + 1) := by omega
  have hb3 : (i : Int) ≤ (n : Int) + 1 := by omega
  have hb4 : ¬ (c = i) := by omega
  have hb5 : (i : Int) ≤ (n : Int) := by omega
  have hb6 : (n : Int) + 1 ≤ (c : Int) := by omega
  have hb7 : (i : Int) + 1 ≤ (n : Int) + 1 := by omega
  have hc' : c ≤ 9223372036854775807 := by unfold maxLen at hc; omega
  clear hB hv h1x h1v h1y hx hys hvb hyl hvl hxl
  go_enter Tryz.func65, Tryz.ntmps65
  go_wp2_with (simp only [HOv.out])
  go_region_law (refine step_copyBlk rfl _ _ 24 24 rfl 26 3 Tryz.underlying24 iszBk g ((i + 1) * 3) (n - i) (c - (i + 1)) ⟨g, i * 3, none⟩ (n + 1 - i) (c - i) (by simp [Act.eval, Act.put]) (by simp [Act.eval, Act.put]) (i * 3 + 3) (by omega) cur 26 HBl.out ys (by have := HYL.out; simp only [Nat.min_def]; split <;> omega) (fun j v hj => by rw [add_plain]; exact hsrc.out j v hj) (by have := HYL.out; omega) HY1.out ?_; intro w4 hw4)
  have HW4 := Lib.hid hw4
  clear hw4
  have hvs := Lib.hid (show ∀ j u, vs[j]? = some u → w4.cell? ⟨vb, 0 + j, none⟩ = some u from fun j u hu => by
    rw [World.cell?_of_block (HW4.out.block vb HNe.out), Nat.zero_add]
    refine (HVb.out.cell j).trans ?_
    simpa using hu)
  go_wp2_with fail
  have hrun := run_copy_blk w4 24 24 3 26 3 g (i * 3) (n + 1 - i) (c - i) ⟨vb, 0, none⟩ 1 1 (splice cur (i * 3 + 3) ys).toArray 26 vs Tryz.underlying24 iszBk HW4.out.blk (by rw [HVl.out]; simp only [Nat.min_def]; split <;> omega) (fun j v hj => by rw [add_plain]; exact hvs.out j v hj) (by rw [List.size_toArray, length_splice _ _ _ (by have := HYL.out; omega), HVl.out]; omega) HV1.out
  rw [hrun]
  clear hrun
  obtain ⟨w5, hw5'⟩ : ∃ y, w4.setRow g ((splice cur (i * 3 + 3) ys).toArray.toList.take (i * 3) ++ vs ++ (splice cur (i * 3 + 3) ys).toArray.toList.drop (i * 3 + vs.length)).toArray = y := ⟨_, rfl⟩
  have HW5 := Lib.hid (show Laid g 26 (splice (splice cur (i * 3 + 3) ys) (i * 3) vs) w4 w5 by
    rw [← hw5']
    have := laid_setRow HW4.out.blk (splice (splice cur (i * 3 + 3) ys) (i * 3) vs)
    simpa [splice] using this)
  rw [hw5']
  clear hw5'
  go_wp2
  go_ret
  have hL := HW4.out.drew.trans HW5.out
  rw [HYS.out] at hL
  have hlen : (splice (splice cur (i * 3 + 3) (xs.drop (i * 3))) (i * 3) vs).length = c * 3 := by
    have hyl := HYL.out
    rw [HYS.out] at hyl
    rw [length_splice _ _ _ (by rw [length_splice _ _ _ (by omega), HVl.out]; omega), length_splice _ _ _ (by omega), hcs]
  have hxl' := HXl.out
  refine ⟨_, _, rfl, ⟨⟨by simp only [List.length_append, List.length_take, List.length_drop, HVl.out]; omega, .inr ⟨g, c, _, rfl, hg1, hL.blk, hnc, hc, by simpa using hlen, ?_⟩⟩, fun b hb => by injection hb with hb; subst hb; exact hL.blk.lt⟩, hL.only hg1 (by omega)⟩
  have hf := HFin.out
  rw [← hf, Nat.succ_mul]
end Go.Proofs.YtjmlcobbjpmjpaaGreatDoor
namespace Go.Proofs.YtjmlcobbjpmjpaaGreatDoor
open Go.RowKit

theorem wpList_growZeros {P : Program} {w : World} {ops : Array Oper} {rest : List Oper} {o : Oper} {a : Act} {Q : Exit → Act → World → Prop} (hgd : o.guard = none) (s x : Operand) (t tn : TypeId)
    (ho : o.op = .call { callee := .builtin .append, args := #[s, x], argTypes := #[t, tn] })
    (e : TypeId) (zv : Value) (size bytes : Nat) (ht : P.underlying t = some (.slice e)) (htn : P.underlying tn = some (.int .i64)) (hinfo : (P.info? e).map (fun i => (i.zero, i.size, i.bytes)) = some (some zv, size, bytes)) (hzs : zv.cells.size = size) (hsz : 0 < size) (hb : bytes ≤ 1000)
    (g i c : Nat) (hs : a.eval s = .slice (some ⟨g, 0, none⟩) i c) (k : Nat) (q : Int) (hx : a.eval x = .int .i64 q) (hq : q = (k : Int)) (hk : 0 < k) (hroom : c < i + k) (hsmall : i + k ≤ 10000000) (m : Nat) (hm : i + k = m)
    (olds : List Value) (hol : olds.length = i * size) (hold : ∀ j v, olds[j]? = some v → w.cell? ⟨g, j, none⟩ = some v)
    (h : ∀ w' G row, m ≤ G → G ≤ 9223372036854775807 → G ≤ maxLen → Blk w' w.heap.size e (List.toArray row) → row.take (i * size) = olds → row.length = G * size → Below w.heap.size w w' → w'.heap.size = w.heap.size + 1 → wpList P ops Q rest (a.put o.dst (.slice (some ⟨w.heap.size, 0, none⟩) m G)) w') : wpList P ops Q (o :: rest) a w := by
  subst hq
  subst hm
  obtain ⟨i0, hi, hz, hsize, hby⟩ := info_parts hinfo
  have hf : (Builtin.firstCells i0.size i (.slice (some ⟨g, 0, none⟩) i c)).run P w.drew = .ok olds.toArray w.drew := by
    rw [hsize]
    refine run_firstCells_some w.drew size i ⟨g, 0, none⟩ i c olds hol (fun j v hj => ?_)
    rw [add_plain, Nat.zero_add]
    exact hold j v hj
  have hbig : (i + k) * bytes ≤ 140737488355328 := by
    calc (i + k) * bytes ≤ 10000000 * 1000 := Nat.mul_le_mul hsmall hb
      _ ≤ 140737488355328 := by decide
  have hr : ∀ ty, _ := fun ty => Lib.run_append_grow_zeros w t tn ty e i0 zv .i64 .i64 ht htn hi hz (some ⟨g, 0, none⟩) i c olds hf k hk (by omega) hroom (by omega) (by
    rw [hby]
    calc k * bytes ≤ 10000000 * 1000 := Nat.mul_le_mul (by omega) hb
      _ ≤ 281474976710656 := by decide) (by rw [hby]; exact growslice_fits hroom hbig)
  refine Lib.wpList_append_run w hgd s x t tn ho _ _ hs hx _ _ (hr _) ?_
  have hge := grownCap_ge w (i + k) c e
  have hle := grownCap_le_maxLen w (i + k) c e (by unfold maxLen; omega)
  refine h _ _ (olds ++ (Builtin.zeroCells zv.cells k).toList ++ (Builtin.zeroCells zv.cells (grownCap w (i + k) c e - (i + k))).toList) hge (by unfold maxLen at hle; omega) hle ?_ ?_ ?_ ?_ ?_
  · have := Blk.new w.drew e (olds.toArray ++ Builtin.zeroCells zv.cells k ++ Builtin.zeroCells zv.cells (grownCap w (i + k) c e - (i + k)))
    have e9 : (olds ++ (Builtin.zeroCells zv.cells k).toList ++ (Builtin.zeroCells zv.cells (grownCap w (i + k) c e - (i + k))).toList).toArray = olds.toArray ++ Builtin.zeroCells zv.cells k ++ Builtin.zeroCells zv.cells (grownCap w (i + k) c e - (i + k)) := by
      apply Array.ext'
      simp only [Array.toList_append]
    rw [e9]
    exact this
  · rw [List.append_assoc, ← hol, List.take_left]
  · simp only [List.length_append, Array.length_toList, size_zeroCells, hzs, hol]
    rw [← Nat.add_mul, ← Nat.add_mul]
    congr 1
    omega
  · exact ⟨rfl, rfl, rfl, by simp, fun q hq => Below.heap_alloc w.drew _ q hq⟩
  · simp
end Go.Proofs.YtjmlcobbjpmjpaaGreatDoor
namespace Go.Proofs.YtjmlcobbjpmjpaaGreatDoor
open Go.RowKit

set_option maxHeartbeats 4000000 in
set_option maxRecDepth 100000 in
theorem insBk_grow (g n i vb lo hi : Nat) (xs vs : List Value) (w : World) (hxl : xs.length = n * 3) (hB : ∀ j u, xs[j]? = some u → w.cell? ⟨g, j, none⟩ = some u) (hg1 : lo ≤ g) (hg2 : g < hi) (hhi : hi ≤ w.heap.size) (hi' : i < n) (hn : n ≤ 1000000) (h1x : ∀ u ∈ xs, u.oneCell' = true) (hv : Blk w vb 26 vs.toArray) (hvl : vs.length = 3) (hvb : vb ≠ g) (h1v : ∀ u ∈ vs, u.oneCell' = true) :
    Calls Tryz.prog 65 #[.slice (some ⟨g, 0, none⟩) n n, .int .i64 i, .slice (some ⟨vb, 0, none⟩) 1 1] w fun e w' => ∃ A' c', e = .returned (.slice A' (n + 1) c') ∧ Sl w' lo w'.heap.size 26 3 A' (n + 1) c' (xs.take (i * 3) ++ vs ++ xs.drop (i * 3)) ∧ Only lo w.heap.size w w' := by
  have hvw : vb < w.heap.size := hv.lt
  obtain ⟨ys, hys⟩ : ∃ ys, ys = xs.drop (i * 3) := ⟨_, rfl⟩
  have hyl : ys.length = (n - i) * 3 := by rw [hys, List.length_drop]; omega
  have HY1 := Lib.hid (show ∀ u ∈ ys, u.oneCell' = true from fun u hu => h1x u (List.mem_of_mem_drop (by rw [hys] at hu; exact hu)))
  have HV1 := Lib.hid h1v
  have HYS := Lib.hid hys
  have HYL := Lib.hid hyl
  have HNe := Lib.hid hvb
  have HVl := Lib.hid hvl
  have HXl := Lib.hid hxl
  have HVb := Lib.hid hv
  obtain ⟨N, hN⟩ : ∃ N, N = w.heap.size := ⟨_, rfl⟩
  have HN := Lib.hid hN
  have hold := Lib.hid (show ∀ j u, (xs.take (i * 3))[j]? = some u → w.cell? ⟨g, j, none⟩ = some u from fun j u hu => by
    rw [List.getElem?_take] at hu
    split at hu
    · exact hB j u hu
    · cases hu)
  have HBs := Lib.hid (show ∀ j u, ys[j]? = some u → w.cell? ⟨g, i * 3 + j, none⟩ = some u from fun j u hu => by
    rw [hys, List.getElem?_drop] at hu
    exact hB _ u hu)
  have htl := Lib.hid (show (xs.take (i * 3)).length = i * 3 by rw [List.length_take]; omega)
  have hw1 : IntKind.i64.wrap ((i : Int) + 1) = (i : Int) + 1 := by rw [IntKind.wrap_i64]; omega
  have hw2 : IntKind.i64.wrap ((n : Int) + 1) = (n : Int) + 1 := by rw [IntKind.wrap_i64]; omega
  have hw3 : IntKind.i64.wrap ((n : Int) + 1 - (i : Int)) = (n : Int) + 1 - (i : Int) := by rw [IntKind.wrap_i64]; omega
  have hb1 : (0 : Int) ≤ (i : Int) + 1 := by omega
  have htn : ((i : Int) + 1).toNat = i + 1 := by omega
  have hz2 : ¬ ((i : Int) = (n : Int)) := by omega
  have hz3 : (n : Int) < (n : Int) + 1 := by omega
  have hb4 : ¬ (n = i) := by omega
  have hb5 : (i : Int) ≤ (n : Int) := by omega
  clear hB hv h1x h1v hys hvb hyl hvl hxl hN
  go_enter Tryz.func65, Tryz.ntmps65
  go_wp2_with (at_builtin; refine wpList_growZeros rfl _ _ 24 3 rfl 26 _ 3 32 Tryz.underlying24 Tryz.underlying3 info_bk rfl (by decide) (by decide) g i n rfl (n + 1 - i) _ rfl (by omega) (by omega) (by omega) (by omega) (n + 1) (by omega) (xs.take (i * 3)) htl.out hold.out ?_; intro w1 G row hR1 hG63 hR2 hR3 hR4 hR5 hR6 hR7; have HR1 := Lib.hid hR1; have HR2 := Lib.hid hR2; have HR3 := Lib.hid hR3; have HR4 := Lib.hid (And.intro hR4 hR5); have HR5 := Lib.hid (And.intro hR6 hR7); have hGi : ¬ (G = i) := (by omega); have hGj : ¬ (G = i + 1) := (by omega); clear hR2 hR3 hR4 hR5 hR6 hR7)
  have hvs := Lib.hid (show ∀ j u, vs[j]? = some u → w1.cell? ((⟨vb, 0, none⟩ : Addr).add j) = some u from fun j u hu => by
    rw [add_plain, HR5.out.1.cell (p := ⟨vb, 0 + j, none⟩) hvw, Nat.zero_add]
    refine (HVb.out.cell j).trans ?_
    simpa using hu)
  have hrun := run_copy_blk w1 24 24 3 26 3 w.heap.size (i * 3) (n + 1 - i) (G - i) ⟨vb, 0, none⟩ 1 1 row.toArray 26 vs Tryz.underlying24 iszBk HR3.out (by rw [HVl.out]; simp only [Nat.min_def]; split <;> omega) hvs.out (by have := HR4.out.2; have := HVl.out; simp; omega) HV1.out
  rw [hrun]
  clear hrun
  obtain ⟨w2, hw2'⟩ : ∃ y, w1.setRow w.heap.size (row.toArray.toList.take (i * 3) ++ vs ++ row.toArray.toList.drop (i * 3 + vs.length)).toArray = y := ⟨_, rfl⟩
  have L2 := Lib.hid (show Laid w.heap.size 26 (splice row (i * 3) vs) w1 w2 by
    rw [← hw2']
    have := laid_setRow HR3.out (splice row (i * 3) vs)
    simpa [splice] using this)
  rw [hw2']
  clear hw2'
  have hsrc := Lib.hid (show ∀ j u, ys[j]? = some u → w2.cell? ⟨g, i * 3 + j, none⟩ = some u from fun j u hu => by
    rw [World.cell?_of_block (L2.out.block g (by omega)), HR5.out.1.cell (p := ⟨g, i * 3 + j, none⟩) (by simp only; omega)]
    exact HBs.out j u hu)
  have hsl := Lib.hid (show (splice row (i * 3) vs).length = G * 3 by
    rw [length_splice _ _ _ (by have := HR4.out.2; have := HVl.out; omega)]
    exact HR4.out.2)
  go_wp2
  go_region_law (refine step_copyBlk rfl _ _ 24 24 rfl 26 3 Tryz.underlying24 iszBk w.heap.size ((i + 1) * 3) (n - i) (G - (i + 1)) ⟨g, i * 3, none⟩ (n - i) (n - i) (by simp [Act.eval, Act.put]) (by simp [Act.eval, Act.put]) (i * 3 + 3) (by omega) (splice row (i * 3) vs) 26 L2.out.blk ys (by have := HYL.out; simp only [Nat.min_self]; exact this) (fun j v hj => by rw [add_plain]; exact hsrc.out j v hj) (by have := HYL.out; have := hsl.out; omega) HY1.out ?_; intro w4 hw4)
  have HW4 := Lib.hid hw4
  clear hw4
  go_wp2
  go_ret
  have hL := HW4.out.drew
  rw [HYS.out] at hL
  have hlen : (splice (splice row (i * 3) vs) (i * 3 + 3) (xs.drop (i * 3))).length = G * 3 := by
    have hyl := HYL.out
    rw [HYS.out] at hyl
    rw [length_splice _ _ _ (by have := hsl.out; omega)]
    exact hsl.out
  have hxl' := HXl.out
  have hsz : w4.heap.size = w.heap.size + 1 := by rw [hL.size, L2.out.size]; exact HR5.out.2
  refine ⟨_, _, rfl, ⟨⟨by simp only [List.length_append, List.length_take, List.length_drop, HVl.out]; omega, .inr ⟨w.heap.size, G, _, rfl, by omega, hL.blk, HR1.out, HR2.out, by simpa using hlen, ?_⟩⟩, fun b hb => by injection hb with hb; subst hb; simp only; omega⟩, ?_⟩
  · have hf := splice_grow (row := row) (xs := xs) (vs := vs) (p := i * 3) (q := 3) (N := n * 3) HR4.out.1 HXl.out (by omega) HVl.out (by have := HR4.out.2; omega)
    rw [← hf, Nat.succ_mul]
  · have hT := (L2.out.trans hL)
    refine ⟨hT.os.trans HR5.out.1.os, hT.tape.trans HR5.out.1.tape, hT.output.trans HR5.out.1.output, by omega, fun k hk hd => ?_⟩
    rw [hT.block k (by omega)]
    exact HR5.out.1.block k hk
end Go.Proofs.YtjmlcobbjpmjpaaGreatDoor
namespace Go.Proofs.YtjmlcobbjpmjpaaGreatDoor
open Go.RowKit

set_option maxHeartbeats 2000000 in
set_option maxRecDepth 100000 in
theorem insBk_nil (vb : Nat) (vs : List Value) (w : World) (hv : Blk w vb 26 vs.toArray) (hvl : vs.length = 3) (h1v : ∀ u ∈ vs, u.oneCell' = true) :
    Calls Tryz.prog 65 #[.slice none 0 0, .int .i64 0, .slice (some ⟨vb, 0, none⟩) 1 1] w fun e w' => ∃ A' c', e = .returned (.slice A' 1 c') ∧ Sl w' w.heap.size w'.heap.size 26 3 A' 1 c' vs ∧ Only w.heap.size w.heap.size w w' := by
  have acc0 := Lib.hid (Acc.nil w 26 3)
  have hcells := Lib.hid (show ∀ j u, vs[j]? = some u → w.cell? ⟨vb, 0 + j, none⟩ = some u from fun j u hu => by rw [Nat.zero_add, hv.cell]; simpa using hu)
  have HV1 := Lib.hid h1v
  clear hv h1v
  go_enter Tryz.func65, Tryz.ntmps65
  go_wp2_with (at_builtin; refine wpList_accMany rfl _ _ 24 rfl 26 _ 3 32 Tryz.underlying24 info_bk rfl (by decide) (by decide) acc0.out (Nat.le_refl _) rfl vb 0 1 1 vs rfl (by omega) hcells.out HV1.out (by omega) ?_; intro A2 d2 w9 hacc2; rw [Nat.zero_add]; rw [Nat.zero_add, List.nil_append] at hacc2; have HA2 := Lib.hid hacc2; clear hacc2)
  go_ret
  exact ⟨_, _, rfl, HA2.out.sl (Nat.le_refl _) (Nat.le_refl _), ⟨HA2.out.os, HA2.out.tape, HA2.out.output, HA2.out.size, fun k hk hd => HA2.out.block k hk (by omega)⟩⟩
theorem insBk_any (A : Option Addr) (n c i vb lo hi : Nat) (xs vs : List Value) (w : World) (h : Sl w lo hi 26 3 A n c xs) (hlo : lo ≤ w.heap.size) (hhi : hi ≤ w.heap.size) (hi' : i ≤ n) (hn : n ≤ 1000000) (h1x : ∀ u ∈ xs, u.oneCell' = true) (hv : Blk w vb 26 vs.toArray) (hvl : vs.length = 3) (hvb : vb < lo ∨ hi ≤ vb) (h1v : ∀ u ∈ vs, u.oneCell' = true) :
    Calls Tryz.prog 65 #[.slice A n c, .int .i64 i, .slice (some ⟨vb, 0, none⟩) 1 1] w fun e w' => ∃ A' c', e = .returned (.slice A' (n + 1) c') ∧ Sl w' lo w'.heap.size 26 3 A' (n + 1) c' (xs.take (i * 3) ++ vs ++ xs.drop (i * 3)) ∧ Only lo w.heap.size w w' := by
  have hxl := h.len
  rcases h.1.2 with ⟨h', _⟩ | ⟨g, cap, cur, h', hg1, hg, hnc, hcm, hcs, ht⟩
  · injection h' with e1 e2 e3
    subst e1 e2 e3
    obtain rfl : i = 0 := by omega
    have hx0 : xs = [] := List.eq_nil_of_length_eq_zero (by omega)
    subst hx0
    refine (insBk_nil vb vs w hv hvl h1v).mono ?_
    rintro e w' ⟨A', c', rfl, s, o⟩
    exact ⟨A', c', rfl, by simpa using s.wide hlo (Nat.le_refl _), o.wide hlo (Nat.le_refl _)⟩
  · injection h' with e1 e2 e3
    subst e1 e3
    have hg2 : g < hi := h.2 _ rfl
    rcases Nat.lt_or_ge i n with hlt | hge
    · by_cases hroom : n + 1 ≤ c
      · exact insBk_shift g n c i vb lo hi cur.toList xs vs w hg (by simpa using hcs) ht hg1 hg2 hhi hlt hroom hn hcm h1x hv hvl (by omega) h1v
      · obtain rfl : c = n := by omega
        exact insBk_grow g c i vb lo hi xs vs w hxl (fun j u hu => by
          have hj : j < c * 3 := by rw [← hxl]; exact (List.getElem?_eq_some_iff.1 hu).1
          exact (h.cellAt j hj).trans hu) hg1 hg2 hhi hlt hn h1x hv hvl (by omega) h1v
    · obtain rfl : i = n := by omega
      rw [List.take_of_length_le (by omega), List.drop_eq_nil_of_le (by omega), List.append_nil]
      exact insBk_end g i c vb lo hi xs vs w h hhi hn (by unfold maxLen at hcm; omega) hv hvl h1v

set_option maxHeartbeats 2000000 in
set_option maxRecDepth 100000 in
theorem cloneBk_any (b off n c : Nat) (l : List Bk) (B : Nat) (w : World) (h : Reads w B 3 (some ⟨b, off, none⟩) n (bks l)) (hB : B ≤ w.heap.size) (hn : n ≤ 1048576) :
    Calls Tryz.prog 66 #[.slice (some ⟨b, off, none⟩) n c] w fun e w' => ∃ A' c', e = .returned (.slice A' n c') ∧ Sl w' w.heap.size w'.heap.size 26 3 A' n c' (bks l) ∧ Below w.heap.size w w' := by
  have hl := Lib.hid (bks_len h)
  have hcells := Lib.hid (show ∀ j u, (bks l)[j]? = some u → (w.alloc (.cells #[] 26)).cell? ⟨b, off + j, none⟩ = some u from fun j u hu => by
    rcases Nat.eq_zero_or_pos n with h0 | h0
    · have : (bks l).length = 0 := by rw [bks_length, hl.out, h0]
      rw [List.length_eq_zero_iff.1 this] at hu; simp at hu
    · obtain ⟨b', off', e, _, hc⟩ := (h.on hB ((Below.refl _ _).alloc (Nat.le_refl _) _)).at_ h0
      injection e with e; injection e with e e'; subst e; subst e'
      exact hc j u hu)
  have acc0 := Lib.hid (Acc.made w 26 3)
  clear h
  have hnil := fun W : World => Lib.run_eql_slice_nil (P := Tryz.prog) W 24 26 (some ⟨b, off, none⟩) n c 0 0 Tryz.underlying24
  simp only [Option.isNone_some] at hnil
  go_enter Tryz.func66, Tryz.ntmps66
  go_wp2_with (at_builtin; refine wpList_accMany rfl _ _ 24 rfl 26 _ 3 32 Tryz.underlying24 info_bk rfl (by decide) (by decide) acc0.out (Nat.le_refl _) rfl b off n c (bks l) rfl (by rw [bks_length, hl.out]) hcells.out (bks_one l) (by omega) ?_; intro A2 d2 w9 hacc2; rw [Nat.zero_add]; rw [Nat.zero_add, List.nil_append] at hacc2; have HA2 := Lib.hid hacc2; clear hacc2)
  go_ret
  exact ⟨_, _, rfl, HA2.out.sl (Nat.le_refl _) (Nat.le_refl _), HA2.out.below (Nat.le_refl _) (Nat.le_refl _)⟩

theorem late1_any (y : Bk) (d : Int) (gb : Nat) (w : World) (hc : w.cell? ⟨gb, 0, none⟩ = some (.int .i64 d)) :
    Calls Tryz.prog 64 #[.agg #[.int .i64 y.day, .string y.client, .int .i64 y.amount], .pointer (some ⟨gb, 0, none⟩)] w fun e w' => e = .returned (.bool (lateB d y)) ∧ Below w.heap.size w w' := by
  have hg : gb < w.heap.size := World.block_lt_of_cell? w _ hc
  go_enter Tryz.func64, Tryz.ntmps64
  go_wp2_with fail
  have hc' : (w.alloc (.cells #[.int .i64 y.day, .string y.client, .int .i64 y.amount] 26)).cell? ⟨gb, 0, none⟩ = some (.int .i64 d) := cell_on ((Below.refl _ _).alloc (Nat.le_refl _) _) hc
  go_wp2
  go_ret
  exact ⟨rfl, (Below.refl _ _).alloc (Nat.le_refl _) _⟩

set_option maxHeartbeats 2000000 in
theorem idxBk_any (g n c : Nat) (l : List Bk) (d : Int) (gb : Nat) (B : Nat) (w : World) (h : Reads w B 3 (some ⟨g, 0, none⟩) n (bks l)) (hB : B ≤ w.heap.size) (hn : n ≤ 1048576) (hc : w.cell? ⟨gb, 0, none⟩ = some (.int .i64 d)) :
    Calls Tryz.prog 63 #[.slice (some ⟨g, 0, none⟩) n c, .func (.func 64) #[] #[.pointer (some ⟨gb, 0, none⟩)]] w fun e w' => e = .returned (.int .i64 (idxI (lateB d) l)) ∧ Below w.heap.size w w' := by
  have hl := Lib.hid (bks_len h)
  go_enter Tryz.func63, Tryz.ntmps63
  go_wp2
  go_loopw [8] (fun i wr => ∃ k : Nat, k ≤ n ∧ i = .int .i64 k ∧ AllTo (fun y => !lateB d y) l k ∧ Below w.heap.size w wr) (fun i _ => n - (intOf i).toNat)
  case atStart => exact ⟨0, Nat.zero_le _, rfl, AllTo.zero _ _, Below.refl _ _⟩
  case round =>
    obtain ⟨k, hk, rfl, hall, hbel⟩ := hrel
    have HA := Lib.hid hall
    have HB := Lib.hid hbel
    clear hall
    by_cases hlt : k < n
    · obtain ⟨y, b', off', hy, e2, hb', d0, d1, d2⟩ := bk_at (h.on hB hbel) hlt
      injection e2 with e2; injection e2 with e2 e2'; subst e2; subst e2'
      simp only [Nat.zero_add] at d0 d1 d2
      have HY := Lib.hid hy
      have hcr := cell_on hbel hc
      clear hy hbel h
      go_wp2_with fail
      refine (late1_any y d gb _ hcr).mono ?_
      rintro e w1 ⟨rfl, b1⟩
      have HF := Lib.hid (bnext HB.out b1 (Nat.le_refl _))
      clear b1 hcr d0 d1 d2
      rcases hla : lateB d y with _ | _
      · go_wp2
        go_roundw
        case rel => exact ⟨k + 1, by omega, by go_num, HA.out.step HY.out (by simp [hla]), HF.out⟩
        case measure => simp [intOf]; omega
      · have HO := Lib.hid (show idxI (lateB d) l = k from idxI_found HY.out hla HA.out)
        go_wp2
        go_ret
        exact ⟨ret_int HO.out.symm, HF.out⟩
    · obtain rfl : k = n := by omega
      have HO := Lib.hid (show idxI (lateB d) l = -1 from idxI_none HA.out hl.out)
      go_wp2
      go_ret
      exact ⟨ret_int HO.out.symm, HB.out⟩

end Go.Proofs.YtjmlcobbjpmjpaaGreatDoor
namespace Go.Proofs.YtjmlcobbjpmjpaaGreatDoor
open Go.RowKit

set_option maxHeartbeats 4000000 in
set_option maxRecDepth 100000 in
theorem implBookClient_any (g n c : Nat) (l : List Bk) (x : Bk) (B : Nat) (w : World) (h : Reads w B 3 (some ⟨g, 0, none⟩) n (bks l)) (hB : B ≤ w.heap.size) (hn : n ≤ 1048576) (hsm : ∀ x ∈ l, x.small) (hx : x.good) (hxs : x.small) :
    Calls Tryz.prog 9 #[.slice (some ⟨g, 0, none⟩) n c, .agg #[.int .i64 x.day, .string x.client, .int .i64 x.amount]] w fun e w' => ∃ A' m c', e = .returned (.tuple #[.slice A' m c', .int .i64 (bookF l x).2]) ∧ Sl w' w.heap.size w'.heap.size 26 3 A' m c' (bks (bookF l x).1) ∧ Below w.heap.size w w' := by
  have hl := Lib.hid (bks_len h)
  rcases h1 : okBks l with _ | _
  · have HO := Lib.hid (bookF_bad (x := x) h1)
    go_enter Tryz.func9, Tryz.ntmps9
    go_wp2_with fail
    obtain ⟨wq, hwq⟩ : ∃ y, w.alloc (.cells #[.int .i64 x.day, .string x.client, .int .i64 x.amount] 26) = y := ⟨_, rfl⟩
    rw [hwq]
    have yq : Blk wq w.heap.size 26 #[.int .i64 x.day, .string x.client, .int .i64 x.amount] := by rw [← hwq]; exact Blk.new _ _ _
    have bq : Below w.heap.size w wq := by rw [← hwq]; exact (Below.refl _ _).alloc (Nat.le_refl _) _
    have zq := bq.size
    clear hwq
    refine (implValidBookings_any _ n c l B wq (h.on hB bq) (by omega) hn hsm).mono ?_
    rintro e w1 ⟨rfl, b1⟩
    have z1 := b1.size
    have y1 := yq.on b1
    have H1 := Lib.hid (bnext bq b1 (Nat.le_refl _))
    have h1' := (h.on hB bq).on (by omega) b1
    clear b1 yq bq
    go_wp2
    go_ret2
    rw [HO.out]
    exact ⟨_, _, _, rfl, Sl.nil _ _ _ _ _, H1.out⟩
  · rcases h2 : okBk x with _ | _
    · have HO := Lib.hid (bookF_range h1 h2)
      go_enter Tryz.func9, Tryz.ntmps9
      go_wp2_with fail
      obtain ⟨wq, hwq⟩ : ∃ y, w.alloc (.cells #[.int .i64 x.day, .string x.client, .int .i64 x.amount] 26) = y := ⟨_, rfl⟩
      rw [hwq]
      have yq : Blk wq w.heap.size 26 #[.int .i64 x.day, .string x.client, .int .i64 x.amount] := by rw [← hwq]; exact Blk.new _ _ _
      have bq : Below w.heap.size w wq := by rw [← hwq]; exact (Below.refl _ _).alloc (Nat.le_refl _) _
      have zq := bq.size
      clear hwq
      refine (implValidBookings_any _ n c l B wq (h.on hB bq) (by omega) hn hsm).mono ?_
      rintro e w1 ⟨rfl, b1⟩
      have z1 := b1.size
      have y1 := yq.on b1
      have H1 := Lib.hid (bnext bq b1 (Nat.le_refl _))
      have h1' := (h.on hB bq).on (by omega) b1
      clear b1 yq bq
      have q0 : w1.cell? ⟨w.heap.size, 0, none⟩ = some (.int .i64 x.day) := y1.cellAt 0 (by simp)
      have q1 : w1.cell? ⟨w.heap.size, 1, none⟩ = some (.string x.client) := y1.cellAt 1 (by simp)
      have q2 : w1.cell? ⟨w.heap.size, 2, none⟩ = some (.int .i64 x.amount) := y1.cellAt 2 (by simp)
      go_wp2_with fail
      refine (validBooking_any x _ hx.2.1).mono ?_
      rintro e w2 ⟨rfl, b2⟩
      have z2 := b2.size
      have y2 := y1.on b2
      have H2 := Lib.hid (bnext H1.out b2 (Nat.le_refl _))
      have h2' := h1'.on (by omega) b2
      clear b2 y1 q0 q1 q2 h1'
      go_wp2
      go_ret2
      rw [HO.out]
      exact ⟨_, _, _, rfl, Sl.nil _ _ _ _ _, H2.out⟩
    · have hl80 := okBks_len h1
      have hll := hl.out
      by_cases hfull : n = 80
      · have HO := Lib.hid (bookF_full h1 h2 (by omega))
        have hf80 : ((n : Int) == 80) = true := by simp; omega
        clear hl80 hll hfull
        go_enter Tryz.func9, Tryz.ntmps9
        go_wp2_with fail
        obtain ⟨wq, hwq⟩ : ∃ y, w.alloc (.cells #[.int .i64 x.day, .string x.client, .int .i64 x.amount] 26) = y := ⟨_, rfl⟩
        rw [hwq]
        have yq : Blk wq w.heap.size 26 #[.int .i64 x.day, .string x.client, .int .i64 x.amount] := by rw [← hwq]; exact Blk.new _ _ _
        have bq : Below w.heap.size w wq := by rw [← hwq]; exact (Below.refl _ _).alloc (Nat.le_refl _) _
        have zq := bq.size
        clear hwq
        refine (implValidBookings_any _ n c l B wq (h.on hB bq) (by omega) hn hsm).mono ?_
        rintro e w1 ⟨rfl, b1⟩
        have z1 := b1.size
        have y1 := yq.on b1
        have H1 := Lib.hid (bnext bq b1 (Nat.le_refl _))
        have h1' := (h.on hB bq).on (by omega) b1
        clear b1 yq bq
        have q0 : w1.cell? ⟨w.heap.size, 0, none⟩ = some (.int .i64 x.day) := y1.cellAt 0 (by simp)
        have q1 : w1.cell? ⟨w.heap.size, 1, none⟩ = some (.string x.client) := y1.cellAt 1 (by simp)
        have q2 : w1.cell? ⟨w.heap.size, 2, none⟩ = some (.int .i64 x.amount) := y1.cellAt 2 (by simp)
        go_wp2_with fail
        refine (validBooking_any x _ hx.2.1).mono ?_
        rintro e w2 ⟨rfl, b2⟩
        have z2 := b2.size
        have y2 := y1.on b2
        have H2 := Lib.hid (bnext H1.out b2 (Nat.le_refl _))
        have h2' := h1'.on (by omega) b2
        clear b2 y1 q0 q1 q2 h1'
        go_wp2
        go_ret2
        rw [HO.out]
        exact ⟨_, _, _, rfl, Sl.nil _ _ _ _ _, H2.out⟩
      · have HOk := Lib.hid (fun i (hi : cutBk l x.day = i) => bookF_ok h1 h2 (by omega) hi)
        have hle : n ≤ 79 := by omega
        have hf80 : ((n : Int) == 80) = false := by simp; omega
        clear hl80 hll
        go_enter Tryz.func9, Tryz.ntmps9
        go_wp2_with fail
        obtain ⟨wq, hwq⟩ : ∃ y, w.alloc (.cells #[.int .i64 x.day, .string x.client, .int .i64 x.amount] 26) = y := ⟨_, rfl⟩
        rw [hwq]
        have yq : Blk wq w.heap.size 26 #[.int .i64 x.day, .string x.client, .int .i64 x.amount] := by rw [← hwq]; exact Blk.new _ _ _
        have bq : Below w.heap.size w wq := by rw [← hwq]; exact (Below.refl _ _).alloc (Nat.le_refl _) _
        have zq := bq.size
        clear hwq
        refine (implValidBookings_any _ n c l B wq (h.on hB bq) (by omega) hn hsm).mono ?_
        rintro e w1 ⟨rfl, b1⟩
        have z1 := b1.size
        have y1 := yq.on b1
        have H1 := Lib.hid (bnext bq b1 (Nat.le_refl _))
        have h1' := (h.on hB bq).on (by omega) b1
        clear b1 yq bq
        have q0 : w1.cell? ⟨w.heap.size, 0, none⟩ = some (.int .i64 x.day) := y1.cellAt 0 (by simp)
        have q1 : w1.cell? ⟨w.heap.size, 1, none⟩ = some (.string x.client) := y1.cellAt 1 (by simp)
        have q2 : w1.cell? ⟨w.heap.size, 2, none⟩ = some (.int .i64 x.amount) := y1.cellAt 2 (by simp)
        go_wp2_with fail
        refine (validBooking_any x _ hx.2.1).mono ?_
        rintro e w2 ⟨rfl, b2⟩
        have z2 := b2.size
        have y2 := y1.on b2
        have H2 := Lib.hid (bnext H1.out b2 (Nat.le_refl _))
        have h2' := h1'.on (by omega) b2
        clear b2 y1 q0 q1 q2 h1'
        have q0 : w2.cell? ⟨w.heap.size, 0, none⟩ = some (.int .i64 x.day) := y2.cellAt 0 (by simp)
        have q1 : w2.cell? ⟨w.heap.size, 1, none⟩ = some (.string x.client) := y2.cellAt 1 (by simp)
        have q2 : w2.cell? ⟨w.heap.size, 2, none⟩ = some (.int .i64 x.amount) := y2.cellAt 2 (by simp)
        go_wp2_with fail
        refine (idxBk_any g n c l x.day w.heap.size B _ h2' (by omega) hn q0).mono ?_
        rintro e w3 ⟨rfl, b3⟩
        have z3 := b3.size
        have y3 := y2.on b3
        have H3 := Lib.hid (bnext H2.out b3 (Nat.le_refl _))
        have h3 := Lib.hid (h2'.on (by omega) b3)
        clear b3 y2 q0 q1 q2 h2' h
        have q0 : w3.cell? ⟨w.heap.size, 0, none⟩ = some (.int .i64 x.day) := y3.cellAt 0 (by simp)
        have q1 : w3.cell? ⟨w.heap.size, 1, none⟩ = some (.string x.client) := y3.cellAt 1 (by simp)
        have q2 : w3.cell? ⟨w.heap.size, 2, none⟩ = some (.int .i64 x.amount) := y3.cellAt 2 (by simp)
        have hB3 : B ≤ w3.heap.size := by omega
        have hw03 : w.heap.size ≤ w3.heap.size := by omega
        clear y3
        obtain ⟨i, hi⟩ : ∃ i, i = cutBk l x.day := ⟨_, rfl⟩
        have HO := Lib.hid (HOk.out i hi.symm)
        have hid := Lib.hid (idx_cut l x.day)
        rw [← hi] at hid
        have hin : i ≤ n := by have := hid.out; have := hl.out; omega
        clear hi HOk
        go_upto_if 23 with fail
        go_cut [6] (fun s6 wx => s6 = .int .i64 (i : Int) ∧ wx = w3)
        case first =>
          rcases hid.out with ⟨hi1, hi2⟩ | ⟨hi1, hi2⟩
          · obtain rfl : i = n := hi2.trans hl.out
            rw [hi1]
            clear hi1 hi2
            go_wp2_with fail
            go_meet
            exact ⟨rfl, rfl⟩
          · have hneg : decide ((i : Int) < 0) = false := decide_eq_false (by omega)
            rw [hi1]
            clear hi1 hi2
            go_wp2_with fail
            go_meet
            exact ⟨rfl, rfl⟩
        case rest =>
          obtain ⟨rfl, hwc⟩ := hcut
          rw [hwc]
          clear hwc
          go_wp2_with fail
          refine wp_region_any (by kernel_rfl) ?_
          try (change wpAny _ _ _ _ _ _ _ (World.drew _))
          refine wpAny_take (i := 0) (v := ?_) rfl (by kernel_rfl) (by kernel_rfl) (by kernel_rfl) (fun _ _ _ h => h) (Or.inl ⟨by kernel_rfl, ?_⟩) ?_
          rotate_left 1
          · intro w; go_simp; try with_reducible rfl
          try simp only [Act.put, List.getElem_toArray, List.getElem_cons_succ, List.getElem_cons_zero, List.setIfInBounds_toArray, List.set_cons_zero, List.set_cons_succ]
          refine wpAny_take (i := 2) (v := ?_) rfl (by kernel_rfl) (by kernel_rfl) (by kernel_rfl) (fun _ _ _ h => h) (Or.inl ⟨by kernel_rfl, ?_⟩) ?_
          rotate_left 1
          · intro w; go_simp; try with_reducible rfl
          try simp only [Act.put, List.getElem_toArray, List.getElem_cons_succ, List.getElem_cons_zero, List.setIfInBounds_toArray, List.set_cons_zero, List.set_cons_succ]
          refine wpAny_ready (rs := [1, 3]) (by kernel_rfl) (by simp) (AllReady.cons rfl (fun K hK => ?_) (AllReady.cons rfl (fun K hK => ?_) AllReady.nil))
          · go_simp
            refine (cloneBk_any g 0 n c l B _ (h3.out.on hB3 ((Below.refl w3.heap.size w3).drew)) (Nat.le_trans hB3 ((Below.refl w3.heap.size w3).drew).size) (by omega)).mono ?_
            rintro e w4 ⟨A4, c4, rfl, sA, bA⟩
            have r0 : w4.cell? ⟨w.heap.size, 0, none⟩ = some (.int .i64 x.day) := cell_on bA q0
            have r1 : w4.cell? ⟨w.heap.size, 1, none⟩ = some (.string x.client) := cell_on bA q1
            have r2 : w4.cell? ⟨w.heap.size, 2, none⟩ = some (.int .i64 x.amount) := cell_on bA q2
            go_wp2
            try simp only [Act.put, List.getElem_toArray, List.getElem_cons_succ, List.getElem_cons_zero, List.setIfInBounds_toArray, List.set_cons_zero, List.set_cons_succ]
            refine wpAny_ready (rs := [3]) (by kernel_rfl) (by simp) (AllReady.cons rfl (fun K hK => ?_) AllReady.nil)
            go_simp
            refine hK _ _ ?_
            clear hK K
            try simp only [Act.put, List.getElem_toArray, List.getElem_cons_succ, List.getElem_cons_zero, List.setIfInBounds_toArray, List.set_cons_zero, List.set_cons_succ]
            refine wpAny_ready (rs := [4]) (by kernel_rfl) (by simp) (AllReady.cons rfl (fun K hK => ?_) AllReady.nil)
            go_simp
            refine hK _ _ ?_
            clear hK K
            try simp only [Act.put, List.getElem_toArray, List.getElem_cons_succ, List.getElem_cons_zero, List.setIfInBounds_toArray, List.set_cons_zero, List.set_cons_succ]
            refine wpAny_ready (rs := [5]) (by kernel_rfl) (by simp) (AllReady.cons rfl (fun K hK => ?_) AllReady.nil)
            go_simp
            refine (insBk_any A4 n c4 i _ _ _ (bks l) (cellsBk x) _ (sA.on ((Below.refl _ _).alloc (Nat.le_refl _) _)) (Nat.le_trans bA.size (by simp)) (by simp) hin (by omega) (bks_one l) (Blk.new _ _ _) rfl (.inr (Nat.le_refl _)) (bk1 x)).mono ?_
            rintro e w5 ⟨A5, c5, rfl, sR, bI⟩
            have HR := Lib.hid (And.intro (sR.wide (Nat.le_trans hw03 ((Below.refl w3.heap.size w3).drew).size) (Nat.le_refl _)) (bonly ((bnext (bnext H3.out ((Below.refl w3.heap.size w3).drew) (Nat.le_refl _)) bA (Nat.le_refl _)).alloc (Nat.le_trans hw03 (Nat.le_trans ((Below.refl w3.heap.size w3).drew).size bA.size)) _) bI (Nat.le_trans hw03 ((Below.refl w3.heap.size w3).drew).size) (Nat.le_refl _)))
            clear sR bI sA bA
            go_wp2
            try simp only [Act.put, List.getElem_toArray, List.getElem_cons_succ, List.getElem_cons_zero, List.setIfInBounds_toArray, List.set_cons_zero, List.set_cons_succ]
            refine wpAny_take (i := 6) (v := ?_) rfl (by kernel_rfl) (by kernel_rfl) (by kernel_rfl) (fun _ _ _ h => h) (Or.inl ⟨by kernel_rfl, ?_⟩) ?_
            rotate_left 1
            · intro w; go_simp; try with_reducible rfl
            try simp only [Act.put, List.getElem_toArray, List.getElem_cons_succ, List.getElem_cons_zero, List.setIfInBounds_toArray, List.set_cons_zero, List.set_cons_succ]
            refine wpAny_take (i := 7) (v := ?_) rfl (by kernel_rfl) (by kernel_rfl) (by kernel_rfl) (fun _ _ _ h => h) (Or.inl ⟨by kernel_rfl, ?_⟩) ?_
            rotate_left 1
            · intro w; go_simp; try with_reducible rfl
            try simp only [Act.put, List.getElem_toArray, List.getElem_cons_succ, List.getElem_cons_zero, List.setIfInBounds_toArray, List.set_cons_zero, List.set_cons_succ]
            refine wpAny_done (by kernel_rfl) ?_ _
            go_wp2
            go_ret2
            rw [HO.out, bks_ins]
            exact ⟨_, _, _, rfl, HR.out.1, HR.out.2⟩
          · go_simp
            refine hK _ _ ?_
            clear hK K
            try simp only [Act.put, List.getElem_toArray, List.getElem_cons_succ, List.getElem_cons_zero, List.setIfInBounds_toArray, List.set_cons_zero, List.set_cons_succ]
            refine wpAny_ready (rs := [1, 4]) (by kernel_rfl) (by simp) (AllReady.cons rfl (fun K hK => ?_) (AllReady.cons rfl (fun K hK => ?_) AllReady.nil))
            · go_simp
              refine (cloneBk_any g 0 n c l B _ (h3.out.on hB3 ((Below.refl w3.heap.size w3).drew)) (Nat.le_trans hB3 ((Below.refl w3.heap.size w3).drew).size) (by omega)).mono ?_
              rintro e w4 ⟨A4, c4, rfl, sA, bA⟩
              go_wp2
              try simp only [Act.put, List.getElem_toArray, List.getElem_cons_succ, List.getElem_cons_zero, List.setIfInBounds_toArray, List.set_cons_zero, List.set_cons_succ]
              refine wpAny_ready (rs := [4]) (by kernel_rfl) (by simp) (AllReady.cons rfl (fun K hK => ?_) AllReady.nil)
              go_simp
              refine hK _ _ ?_
              clear hK K
              try simp only [Act.put, List.getElem_toArray, List.getElem_cons_succ, List.getElem_cons_zero, List.setIfInBounds_toArray, List.set_cons_zero, List.set_cons_succ]
              refine wpAny_ready (rs := [5]) (by kernel_rfl) (by simp) (AllReady.cons rfl (fun K hK => ?_) AllReady.nil)
              go_simp
              refine (insBk_any A4 n c4 i _ _ _ (bks l) (cellsBk x) _ (sA.on ((Below.refl _ _).alloc (Nat.le_refl _) _)) (Nat.le_trans bA.size (by simp)) (by simp) hin (by omega) (bks_one l) (Blk.new _ _ _) rfl (.inr (Nat.le_refl _)) (bk1 x)).mono ?_
              rintro e w5 ⟨A5, c5, rfl, sR, bI⟩
              have HR := Lib.hid (And.intro (sR.wide (Nat.le_trans hw03 ((Below.refl w3.heap.size w3).drew).size) (Nat.le_refl _)) (bonly ((bnext (bnext H3.out ((Below.refl w3.heap.size w3).drew) (Nat.le_refl _)) bA (Nat.le_refl _)).alloc (Nat.le_trans hw03 (Nat.le_trans ((Below.refl w3.heap.size w3).drew).size bA.size)) _) bI (Nat.le_trans hw03 ((Below.refl w3.heap.size w3).drew).size) (Nat.le_refl _)))
              clear sR bI sA bA
              go_wp2
              try simp only [Act.put, List.getElem_toArray, List.getElem_cons_succ, List.getElem_cons_zero, List.setIfInBounds_toArray, List.set_cons_zero, List.set_cons_succ]
              refine wpAny_take (i := 6) (v := ?_) rfl (by kernel_rfl) (by kernel_rfl) (by kernel_rfl) (fun _ _ _ h => h) (Or.inl ⟨by kernel_rfl, ?_⟩) ?_
              rotate_left 1
              · intro w; go_simp; try with_reducible rfl
              try simp only [Act.put, List.getElem_toArray, List.getElem_cons_succ, List.getElem_cons_zero, List.setIfInBounds_toArray, List.set_cons_zero, List.set_cons_succ]
              refine wpAny_take (i := 7) (v := ?_) rfl (by kernel_rfl) (by kernel_rfl) (by kernel_rfl) (fun _ _ _ h => h) (Or.inl ⟨by kernel_rfl, ?_⟩) ?_
              rotate_left 1
              · intro w; go_simp; try with_reducible rfl
              try simp only [Act.put, List.getElem_toArray, List.getElem_cons_succ, List.getElem_cons_zero, List.setIfInBounds_toArray, List.set_cons_zero, List.set_cons_succ]
              refine wpAny_done (by kernel_rfl) ?_ _
              go_wp2
              go_ret2
              rw [HO.out, bks_ins]
              exact ⟨_, _, _, rfl, HR.out.1, HR.out.2⟩
            · go_simp
              refine hK _ _ ?_
              clear hK K
              try simp only [Act.put, List.getElem_toArray, List.getElem_cons_succ, List.getElem_cons_zero, List.setIfInBounds_toArray, List.set_cons_zero, List.set_cons_succ]
              refine wpAny_ready (rs := [1]) (by kernel_rfl) (by simp) (AllReady.cons rfl (fun K hK => ?_) AllReady.nil)
              go_simp
              refine (cloneBk_any g 0 n c l B _ (h3.out.on hB3 ((Below.refl w3.heap.size w3).drew.alloc (Nat.le_refl _) _)) (Nat.le_trans hB3 ((Below.refl w3.heap.size w3).drew.alloc (Nat.le_refl _) _).size) (by omega)).mono ?_
              rintro e w4 ⟨A4, c4, rfl, sA, bA⟩
              go_wp2
              try simp only [Act.put, List.getElem_toArray, List.getElem_cons_succ, List.getElem_cons_zero, List.setIfInBounds_toArray, List.set_cons_zero, List.set_cons_succ]
              refine wpAny_ready (rs := [5]) (by kernel_rfl) (by simp) (AllReady.cons rfl (fun K hK => ?_) AllReady.nil)
              go_simp
              refine (insBk_any A4 n c4 i _ _ _ (bks l) (cellsBk x) _ sA bA.size (Nat.le_refl _) hin (by omega) (bks_one l) (Blk.on (Blk.new _ _ _) bA) rfl (.inl (by simp)) (bk1 x)).mono ?_
              rintro e w5 ⟨A5, c5, rfl, sR, bI⟩
              have HR := Lib.hid (And.intro (sR.wide (Nat.le_trans hw03 ((Below.refl w3.heap.size w3).drew.alloc (Nat.le_refl _) _).size) (Nat.le_refl _)) (bonly (bnext (bnext H3.out ((Below.refl w3.heap.size w3).drew.alloc (Nat.le_refl _) _) (Nat.le_refl _)) bA (Nat.le_refl _)) bI (Nat.le_trans hw03 ((Below.refl w3.heap.size w3).drew.alloc (Nat.le_refl _) _).size) (Nat.le_refl _)))
              clear sR bI sA bA
              go_wp2
              try simp only [Act.put, List.getElem_toArray, List.getElem_cons_succ, List.getElem_cons_zero, List.setIfInBounds_toArray, List.set_cons_zero, List.set_cons_succ]
              refine wpAny_take (i := 6) (v := ?_) rfl (by kernel_rfl) (by kernel_rfl) (by kernel_rfl) (fun _ _ _ h => h) (Or.inl ⟨by kernel_rfl, ?_⟩) ?_
              rotate_left 1
              · intro w; go_simp; try with_reducible rfl
              try simp only [Act.put, List.getElem_toArray, List.getElem_cons_succ, List.getElem_cons_zero, List.setIfInBounds_toArray, List.set_cons_zero, List.set_cons_succ]
              refine wpAny_take (i := 7) (v := ?_) rfl (by kernel_rfl) (by kernel_rfl) (by kernel_rfl) (fun _ _ _ h => h) (Or.inl ⟨by kernel_rfl, ?_⟩) ?_
              rotate_left 1
              · intro w; go_simp; try with_reducible rfl
              try simp only [Act.put, List.getElem_toArray, List.getElem_cons_succ, List.getElem_cons_zero, List.setIfInBounds_toArray, List.set_cons_zero, List.set_cons_succ]
              refine wpAny_done (by kernel_rfl) ?_ _
              go_wp2
              go_ret2
              rw [HO.out, bks_ins]
              exact ⟨_, _, _, rfl, HR.out.1, HR.out.2⟩
end Go.Proofs.YtjmlcobbjpmjpaaGreatDoor
namespace Go.Proofs.YtjmlcobbjpmjpaaGreatDoor
open Go.RowKit
theorem Reads.src {w : World} {B size n g : Nat} {xs : List Value} (h : Reads w B size (some ⟨g, 0, none⟩) n xs) : ∀ j u, xs[j]? = some u → w.cell? ⟨g, j, none⟩ = some u := fun j u hu => by
  rcases Nat.eq_zero_or_pos n with h0 | h0
  · have := h.1
    rw [h0, Nat.zero_mul] at this
    rw [List.length_eq_zero_iff.1 this] at hu; simp at hu
  · obtain ⟨b, off, e, _, hc⟩ := h.at_ h0
    injection e with e; injection e with e e'; subst e; subst e'
    have := hc j u hu
    rwa [Nat.zero_add] at this
theorem Reads.drewN {w : World} {B size n : Nat} {A : Option Addr} {xs : List Value} (h : Reads w B size A n xs) (m : Nat) : Reads (w.drewN m) B size A n xs := h.keep fun _ _ => rfl
end Go.Proofs.YtjmlcobbjpmjpaaGreatDoor
namespace Go.Proofs.YtjmlcobbjpmjpaaGreatDoor
open Go.RowKit

set_option maxHeartbeats 4000000 in
set_option maxRecDepth 100000 in
theorem specBookClient_any (g n c : Nat) (l : List Bk) (x : Bk) (B : Nat) (w : World) (h : Reads w B 3 (some ⟨g, 0, none⟩) n (bks l)) (hB : B ≤ w.heap.size) (hn : n ≤ 1048576) (hsm : ∀ x ∈ l, x.small) (hx : x.good) (hxs : x.small) (hnc : n ≤ c := by omega) :
    Calls Tryz.prog 10 #[.slice (some ⟨g, 0, none⟩) n c, .agg #[.int .i64 x.day, .string x.client, .int .i64 x.amount]] w fun e w' => ∃ A' m c', e = .returned (.tuple #[.slice A' m c', .int .i64 (bookF l x).2]) ∧ Sl w' w.heap.size w'.heap.size 26 3 A' m c' (bks (bookF l x).1) ∧ Below w.heap.size w w' := by
  have hl := Lib.hid (bks_len h)
  rcases h1 : okBks l with _ | _
  · have HO := Lib.hid (bookF_bad (x := x) h1)
    go_enter Tryz.func10, Tryz.ntmps10
    go_wp2_with fail
    obtain ⟨wq, hwq⟩ : ∃ y, w.alloc (.cells #[.int .i64 x.day, .string x.client, .int .i64 x.amount] 26) = y := ⟨_, rfl⟩
    rw [hwq]
    have yq : Blk wq w.heap.size 26 #[.int .i64 x.day, .string x.client, .int .i64 x.amount] := by rw [← hwq]; exact Blk.new _ _ _
    have bq : Below w.heap.size w wq := by rw [← hwq]; exact (Below.refl _ _).alloc (Nat.le_refl _) _
    have zq := bq.size
    clear hwq
    refine (l25Ok_any _ n c B l wq (h.on hB bq) hn (by omega) hsm).mono ?_
    rintro e w1 ⟨rfl, b1⟩
    have z1 := b1.size
    have y1 := yq.on b1
    have H1 := Lib.hid (bnext bq b1 (Nat.le_refl _))
    have h1' := (h.on hB bq).on (by omega) b1
    clear b1 yq bq
    go_wp2
    go_ret2
    rw [HO.out]
    exact ⟨_, _, _, rfl, Sl.nil _ _ _ _ _, H1.out⟩
  · rcases h2 : okBk x with _ | _
    · have HO := Lib.hid (bookF_range h1 h2)
      go_enter Tryz.func10, Tryz.ntmps10
      go_wp2_with fail
      obtain ⟨wq, hwq⟩ : ∃ y, w.alloc (.cells #[.int .i64 x.day, .string x.client, .int .i64 x.amount] 26) = y := ⟨_, rfl⟩
      rw [hwq]
      have yq : Blk wq w.heap.size 26 #[.int .i64 x.day, .string x.client, .int .i64 x.amount] := by rw [← hwq]; exact Blk.new _ _ _
      have bq : Below w.heap.size w wq := by rw [← hwq]; exact (Below.refl _ _).alloc (Nat.le_refl _) _
      have zq := bq.size
      clear hwq
      refine (l25Ok_any _ n c B l wq (h.on hB bq) hn (by omega) hsm).mono ?_
      rintro e w1 ⟨rfl, b1⟩
      have z1 := b1.size
      have y1 := yq.on b1
      have H1 := Lib.hid (bnext bq b1 (Nat.le_refl _))
      have h1' := (h.on hB bq).on (by omega) b1
      clear b1 yq bq
      have q0 : w1.cell? ⟨w.heap.size, 0, none⟩ = some (.int .i64 x.day) := y1.cellAt 0 (by simp)
      have q1 : w1.cell? ⟨w.heap.size, 1, none⟩ = some (.string x.client) := y1.cellAt 1 (by simp)
      have q2 : w1.cell? ⟨w.heap.size, 2, none⟩ = some (.int .i64 x.amount) := y1.cellAt 2 (by simp)
      go_wp2_with fail
      refine (l25One_any x w.heap.size 0 _ hx.2.1 q0 q1 q2).mono ?_
      rintro e w2 ⟨rfl, rfl⟩
      go_wp2
      go_ret2
      rw [HO.out]
      exact ⟨_, _, _, rfl, Sl.nil _ _ _ _ _, H1.out⟩
    · by_cases hfull : 80 ≤ l.length
      · have HO := Lib.hid (bookF_full h1 h2 hfull)
        have hn80 : (80 : Int) ≤ (n : Int) := by have := hl.out; omega
        go_enter Tryz.func10, Tryz.ntmps10
        go_wp2_with fail
        obtain ⟨wq, hwq⟩ : ∃ y, w.alloc (.cells #[.int .i64 x.day, .string x.client, .int .i64 x.amount] 26) = y := ⟨_, rfl⟩
        rw [hwq]
        have yq : Blk wq w.heap.size 26 #[.int .i64 x.day, .string x.client, .int .i64 x.amount] := by rw [← hwq]; exact Blk.new _ _ _
        have bq : Below w.heap.size w wq := by rw [← hwq]; exact (Below.refl _ _).alloc (Nat.le_refl _) _
        have zq := bq.size
        clear hwq
        refine (l25Ok_any _ n c B l wq (h.on hB bq) hn (by omega) hsm).mono ?_
        rintro e w1 ⟨rfl, b1⟩
        have z1 := b1.size
        have y1 := yq.on b1
        have H1 := Lib.hid (bnext bq b1 (Nat.le_refl _))
        have h1' := (h.on hB bq).on (by omega) b1
        clear b1 yq bq
        have q0 : w1.cell? ⟨w.heap.size, 0, none⟩ = some (.int .i64 x.day) := y1.cellAt 0 (by simp)
        have q1 : w1.cell? ⟨w.heap.size, 1, none⟩ = some (.string x.client) := y1.cellAt 1 (by simp)
        have q2 : w1.cell? ⟨w.heap.size, 2, none⟩ = some (.int .i64 x.amount) := y1.cellAt 2 (by simp)
        go_wp2_with fail
        refine (l25One_any x w.heap.size 0 _ hx.2.1 q0 q1 q2).mono ?_
        rintro e w2 ⟨rfl, rfl⟩
        go_wp2
        go_ret2
        rw [HO.out]
        exact ⟨_, _, _, rfl, Sl.nil _ _ _ _ _, H1.out⟩
      · have HOk := Lib.hid (fun i (hi : cutBk l x.day = i) => bookF_ok h1 h2 hfull hi)
        have hn80 : decide ((80 : Int) ≤ (n : Int)) = false := decide_eq_false (by have := hl.out; omega)
        have hn79 : n ≤ 79 := by have := hl.out; omega
        have HK := Lib.hid h1
        go_enter Tryz.func10, Tryz.ntmps10
        go_wp2_with fail
        obtain ⟨wq, hwq⟩ : ∃ y, w.alloc (.cells #[.int .i64 x.day, .string x.client, .int .i64 x.amount] 26) = y := ⟨_, rfl⟩
        rw [hwq]
        have yq : Blk wq w.heap.size 26 #[.int .i64 x.day, .string x.client, .int .i64 x.amount] := by rw [← hwq]; exact Blk.new _ _ _
        have bq : Below w.heap.size w wq := by rw [← hwq]; exact (Below.refl _ _).alloc (Nat.le_refl _) _
        have zq := bq.size
        clear hwq
        refine (l25Ok_any _ n c B l wq (h.on hB bq) hn (by omega) hsm).mono ?_
        rintro e w1 ⟨rfl, b1⟩
        have z1 := b1.size
        have y1 := yq.on b1
        have H1 := Lib.hid (bnext bq b1 (Nat.le_refl _))
        have h1' := (h.on hB bq).on (by omega) b1
        clear b1 yq bq
        have q0 : w1.cell? ⟨w.heap.size, 0, none⟩ = some (.int .i64 x.day) := y1.cellAt 0 (by simp)
        have q1 : w1.cell? ⟨w.heap.size, 1, none⟩ = some (.string x.client) := y1.cellAt 1 (by simp)
        have q2 : w1.cell? ⟨w.heap.size, 2, none⟩ = some (.int .i64 x.amount) := y1.cellAt 2 (by simp)
        go_wp2_with fail
        refine (l25One_any x w.heap.size 0 _ hx.2.1 q0 q1 q2).mono ?_
        rintro e w2 ⟨rfl, rfl⟩
        obtain ⟨w4, rfl⟩ : ∃ y : World, y = w1 := ⟨_, rfl⟩
        have h4 := Lib.hid h1'
        have z4 : w.heap.size < w4.heap.size := World.block_lt_of_cell? _ _ q0
        have hB4 : B ≤ w4.heap.size := by omega
        clear h1' y1 z1 zq hB h
        have h2w : IntKind.i64.wrap (n : Int) = n := by rw [IntKind.wrap_i64]; omega
        go_wp2
        go_loopw [6] (fun k wr => ∃ i : Nat, i ≤ n ∧ k = .int .i64 i ∧ (∀ (j : Nat) (y : Bk), i ≤ j → l[j]? = some y → x.day < y.day) ∧ Below w4.heap.size w4 wr) (fun k _ => (intOf k).toNat)
        case atStart => exact ⟨n, Nat.le_refl _, rfl, fun j y hj hy => by have := (List.getElem?_eq_some_iff.1 hy).1; have := hl.out; omega, Below.refl _ _⟩
        case round =>
          obtain ⟨i, hi, rfl, hup, hbel⟩ := hrel
          have HU := Lib.hid hup
          have HB := Lib.hid hbel
          have p0 := cell_on hbel q0
          have p1 := cell_on hbel q1
          have p2 := cell_on hbel q2
          have hr := h4.out.on hB4 hbel
          have zr := hbel.size
          clear hup hbel q0 q1 q2
          have hw2 : IntKind.i64.wrap (i : Int) = i := by rw [IntKind.wrap_i64]; omega
          rcases Nat.eq_zero_or_pos i with h0 | h0
          · subst h0
            have hg0 : decide ((0 : Int) < ((0 : Nat) : Int)) = false := by decide
            have HO := Lib.hid (HOk.out 0 (cutBk_mk HK.out (Nat.zero_le _) HU.out (.inl rfl)))
            go_wp2_with fail
            go_quiet (fail)
            rename_i nq
            obtain ⟨wz, hwz⟩ : ∃ y, wr.drewN nq = y := ⟨_, rfl⟩
            have HBz := Lib.hid (below_drewN HB.out nq)
            have HRz := Lib.hid (hr.drewN nq)
            have r0 : (wr.drewN nq).cell? ⟨w.heap.size, 0, none⟩ = some (.int .i64 x.day) := p0
            have r1 : (wr.drewN nq).cell? ⟨w.heap.size, 1, none⟩ = some (.string x.client) := p1
            have r2 : (wr.drewN nq).cell? ⟨w.heap.size, 2, none⟩ = some (.int .i64 x.amount) := p2
            rw [hwz] at HBz HRz r0 r1 r2 ⊢
            clear hwz p0 p1 p2 hr HU HB
            have hzz : w.heap.size < wz.heap.size := World.block_lt_of_cell? _ _ r0
            have hs1 := Lib.hid (show ∀ k u, ((bks l).take (0 * 3))[k]? = some u → (wz.alloc (.cells #[] 26)).cell? ⟨g, 0 + k, none⟩ = some u from fun k u hu => by
              rw [List.getElem?_take] at hu
              split at hu
              · rw [Nat.zero_add]; exact cell_on ((Below.refl _ _).alloc (Nat.le_refl _) _) (HRz.out.src k u hu)
              · cases hu)
            have hs3 := Lib.hid (show ∀ (W : World) (A : Option Addr) (m c : Nat) (ys : List Value), Acc wz.heap.size wz.heap.size 26 3 wz W A m c ys → ∀ k u, ((bks l).drop (0 * 3))[k]? = some u → W.cell? ⟨g, 0 * 3 + k, none⟩ = some u from fun W A m c ys ha k u hu => by
              rw [List.getElem?_drop] at hu
              have hc := HRz.out.src _ u hu
              have hlt := World.block_lt_of_cell? _ _ hc
              exact (ha.cell (p := ⟨g, 0 * 3 + k, none⟩) hlt (by simp only at hlt ⊢; omega)).trans hc)
            have hl1 := Lib.hid (show ((bks l).take (0 * 3)).length = 0 * 3 by rw [List.length_take, bks_length, hl.out]; omega)
            have hl3 := Lib.hid (show ((bks l).drop (0 * 3)).length = (n - 0) * 3 by rw [List.length_drop, bks_length, hl.out]; omega)
            have hl30 := Lib.hid (show c = 0 → (bks l).drop (0 * 3) = [] from fun hc => List.drop_eq_nil_of_le (by rw [bks_length, hl.out]; omega))
            have ho1 := Lib.hid (show ∀ u ∈ (bks l).take (0 * 3), u.oneCell' = true from fun u hu => bks_one l u (List.mem_of_mem_take hu))
            have ho3 := Lib.hid (show ∀ u ∈ (bks l).drop (0 * 3), u.oneCell' = true from fun u hu => bks_one l u (List.mem_of_mem_drop hu))
            by_cases hci : c = 0
            · have hci1 : (c : Int) = 0 := by omega
              go_wp2_with (first | (at_builtin; refine wpList_accMany rfl (.tmp 33) (.tmp 36) 24 rfl 26 _ 3 32 Tryz.underlying24 info_bk rfl (by decide) (by decide) (Acc.made wz 26 3) (Nat.le_refl _) rfl g 0 0 _ ((bks l).take (0 * 3)) rfl hl1.out hs1.out ho1.out (by omega) ?_; intro A5 d5 w5 hacc; rw [Nat.zero_add]; rw [Nat.zero_add, List.nil_append] at hacc; replace r0 := (hacc.cell (p := ⟨w.heap.size, 0, none⟩) hzz (by simp only; omega)).trans r0; replace r1 := (hacc.cell (p := ⟨w.heap.size, 1, none⟩) hzz (by simp only; omega)).trans r1; replace r2 := (hacc.cell (p := ⟨w.heap.size, 2, none⟩) hzz (by simp only; omega)).trans r2; have HA5 := Lib.hid hacc; clear hacc) | (at_builtin; refine wpList_acc rfl (.tmp 38) (.tmp 40) 24 rfl 26 _ 3 32 Tryz.underlying24 info_bk rfl (by decide) (by decide) HA5.out (Nat.le_refl _) rfl [.int .i64 x.day, .string x.client, .int .i64 x.amount] rfl rfl (bk1 x) (by omega) ?_; intro A6 d6 w6 hacc; have HA6 := Lib.hid hacc; clear hacc) | (at_builtin; refine wpList_accMany rfl (.tmp 42) (.tmp 45) 24 rfl 26 _ 3 32 Tryz.underlying24 info_bk rfl (by decide) (by decide) HA6.out (Nat.le_refl _) rfl g 0 (n - 0) _ ((bks l).drop (0 * 3)) rfl hl3.out (fun k u hu => by rw [hl30.out hci] at hu; simp at hu) ho3.out (by omega) ?_; intro A7 d7 w7 hacc; have HA7 := Lib.hid hacc; clear hacc) | fail "app")
              go_ret2
              rw [HO.out, bks_ins]
              exact ⟨_, _, _, rfl, HA7.out.sl (by omega) (by omega), (bnext H1.out HBz.out (Nat.le_refl _)).trans (HA7.out.below (by omega) (by omega))⟩
            · go_wp2_with (first | (at_builtin; refine wpList_accMany rfl (.tmp 33) (.tmp 36) 24 rfl 26 _ 3 32 Tryz.underlying24 info_bk rfl (by decide) (by decide) (Acc.made wz 26 3) (Nat.le_refl _) rfl g 0 0 _ ((bks l).take (0 * 3)) rfl hl1.out hs1.out ho1.out (by omega) ?_; intro A5 d5 w5 hacc; rw [Nat.zero_add]; rw [Nat.zero_add, List.nil_append] at hacc; replace r0 := (hacc.cell (p := ⟨w.heap.size, 0, none⟩) hzz (by simp only; omega)).trans r0; replace r1 := (hacc.cell (p := ⟨w.heap.size, 1, none⟩) hzz (by simp only; omega)).trans r1; replace r2 := (hacc.cell (p := ⟨w.heap.size, 2, none⟩) hzz (by simp only; omega)).trans r2; have HA5 := Lib.hid hacc; clear hacc) | (at_builtin; refine wpList_acc rfl (.tmp 38) (.tmp 40) 24 rfl 26 _ 3 32 Tryz.underlying24 info_bk rfl (by decide) (by decide) HA5.out (Nat.le_refl _) rfl [.int .i64 x.day, .string x.client, .int .i64 x.amount] rfl rfl (bk1 x) (by omega) ?_; intro A6 d6 w6 hacc; have HA6 := Lib.hid hacc; clear hacc) | (at_builtin; refine wpList_accMany rfl (.tmp 42) (.tmp 45) 24 rfl 26 _ 3 32 Tryz.underlying24 info_bk rfl (by decide) (by decide) HA6.out (Nat.le_refl _) rfl g (0 * 3) (n - 0) _ ((bks l).drop (0 * 3)) rfl hl3.out (hs3.out _ _ _ _ _ HA6.out) ho3.out (by omega) ?_; intro A7 d7 w7 hacc; have HA7 := Lib.hid hacc; clear hacc) | fail "app")
              go_ret2
              rw [HO.out, bks_ins]
              exact ⟨_, _, _, rfl, HA7.out.sl (by omega) (by omega), (bnext H1.out HBz.out (Nat.le_refl _)).trans (HA7.out.below (by omega) (by omega))⟩

          · obtain ⟨j, rfl⟩ : ∃ j, i = j + 1 := ⟨i - 1, by omega⟩
            obtain ⟨y, b', off', hy, e2, hb', d0, d1, d2⟩ := bk_at (k := j) hr (by omega)
            injection e2 with e2; injection e2 with e2 e2'; subst e2; subst e2'
            have hj0 : (0 : Int) ≤ j := by omega
            have hj1 : (j : Int) < n := by omega
            have hg0 : decide ((0 : Int) < (j : Int) + 1) = true := decide_eq_true (by omega)
            have hw3 : IntKind.i64.wrap ((j : Int) + 1 - 1) = j := by rw [IntKind.wrap_i64]; omega
            have hw4 : IntKind.i64.wrap (j : Int) = j := by rw [IntKind.wrap_i64]; omega
            have HY := Lib.hid hy
            simp only [Nat.zero_add] at d0
            clear hy d1 d2
            by_cases hgt : x.day < y.day
            · have HN := Lib.hid (show ∀ (q : Nat) (z : Bk), j ≤ q → l[q]? = some z → x.day < z.day from fun q z hq hz => by
                rcases Nat.lt_or_ge j q with hh | hh
                · exact HU.out q z (by omega) hz
                · obtain rfl : q = j := by omega
                  rw [HY.out] at hz; injection hz with hz; subst hz
                  exact hgt)
              go_wp2_with fail
              go_quiet (fail)
              go_wp2
              go_roundw
              case rel => exact ⟨j, by omega, rfl, HN.out, below_drewN HB.out _⟩
              case measure => simp [intOf]
            · have hgt1 : decide (x.day < y.day) = false := decide_eq_false hgt
              have HO := Lib.hid (HOk.out _ (cutBk_mk (k := j + 1) HK.out (by have := hl.out; omega) HU.out (.inr ⟨y, by simpa using HY.out, by omega⟩)))
              have htn : ((j : Int) + 1).toNat = j + 1 := by omega
              have hj5 : (0 : Int) ≤ (j : Int) + 1 := by omega
              have hj6 : (j : Int) + 1 ≤ (c : Int) := by omega
              have hj7 : (j : Int) + 1 ≤ (n : Int) := by omega
              go_wp2_with fail
              go_quiet (fail)
              rename_i nq
              obtain ⟨wz, hwz⟩ : ∃ y, wr.drewN nq = y := ⟨_, rfl⟩
              have HBz := Lib.hid (below_drewN HB.out nq)
              have HRz := Lib.hid (hr.drewN nq)
              have r0 : (wr.drewN nq).cell? ⟨w.heap.size, 0, none⟩ = some (.int .i64 x.day) := p0
              have r1 : (wr.drewN nq).cell? ⟨w.heap.size, 1, none⟩ = some (.string x.client) := p1
              have r2 : (wr.drewN nq).cell? ⟨w.heap.size, 2, none⟩ = some (.int .i64 x.amount) := p2
              rw [hwz] at HBz HRz r0 r1 r2 ⊢
              clear hwz p0 p1 p2 hr HU HB
              have hzz : w.heap.size < wz.heap.size := World.block_lt_of_cell? _ _ r0
              have hs1 := Lib.hid (show ∀ k u, ((bks l).take ((j + 1) * 3))[k]? = some u → (wz.alloc (.cells #[] 26)).cell? ⟨g, 0 + k, none⟩ = some u from fun k u hu => by
                rw [List.getElem?_take] at hu
                split at hu
                · rw [Nat.zero_add]; exact cell_on ((Below.refl _ _).alloc (Nat.le_refl _) _) (HRz.out.src k u hu)
                · cases hu)
              have hs3 := Lib.hid (show ∀ (W : World) (A : Option Addr) (m c : Nat) (ys : List Value), Acc wz.heap.size wz.heap.size 26 3 wz W A m c ys → ∀ k u, ((bks l).drop ((j + 1) * 3))[k]? = some u → W.cell? ⟨g, (j + 1) * 3 + k, none⟩ = some u from fun W A m c ys ha k u hu => by
                rw [List.getElem?_drop] at hu
                have hc := HRz.out.src _ u hu
                have hlt := World.block_lt_of_cell? _ _ hc
                exact (ha.cell (p := ⟨g, (j + 1) * 3 + k, none⟩) hlt (by simp only at hlt ⊢; omega)).trans hc)
              have hl1 := Lib.hid (show ((bks l).take ((j + 1) * 3)).length = (j + 1) * 3 by rw [List.length_take, bks_length, hl.out]; omega)
              have hl3 := Lib.hid (show ((bks l).drop ((j + 1) * 3)).length = (n - (j + 1)) * 3 by rw [List.length_drop, bks_length, hl.out]; omega)
              have hl30 := Lib.hid (show c = (j + 1) → (bks l).drop ((j + 1) * 3) = [] from fun hc => List.drop_eq_nil_of_le (by rw [bks_length, hl.out]; omega))
              have ho1 := Lib.hid (show ∀ u ∈ (bks l).take ((j + 1) * 3), u.oneCell' = true from fun u hu => bks_one l u (List.mem_of_mem_take hu))
              have ho3 := Lib.hid (show ∀ u ∈ (bks l).drop ((j + 1) * 3), u.oneCell' = true from fun u hu => bks_one l u (List.mem_of_mem_drop hu))
              by_cases hci : c = (j + 1)
              · have hci1 : (c : Int) = (j : Int) + 1 := by omega
                go_wp2_with (first | (at_builtin; refine wpList_accMany rfl (.tmp 33) (.tmp 36) 24 rfl 26 _ 3 32 Tryz.underlying24 info_bk rfl (by decide) (by decide) (Acc.made wz 26 3) (Nat.le_refl _) rfl g 0 (j + 1) _ ((bks l).take ((j + 1) * 3)) rfl hl1.out hs1.out ho1.out (by omega) ?_; intro A5 d5 w5 hacc; rw [Nat.zero_add]; rw [Nat.zero_add, List.nil_append] at hacc; replace r0 := (hacc.cell (p := ⟨w.heap.size, 0, none⟩) hzz (by simp only; omega)).trans r0; replace r1 := (hacc.cell (p := ⟨w.heap.size, 1, none⟩) hzz (by simp only; omega)).trans r1; replace r2 := (hacc.cell (p := ⟨w.heap.size, 2, none⟩) hzz (by simp only; omega)).trans r2; have HA5 := Lib.hid hacc; clear hacc) | (at_builtin; refine wpList_acc rfl (.tmp 38) (.tmp 40) 24 rfl 26 _ 3 32 Tryz.underlying24 info_bk rfl (by decide) (by decide) HA5.out (Nat.le_refl _) rfl [.int .i64 x.day, .string x.client, .int .i64 x.amount] rfl rfl (bk1 x) (by omega) ?_; intro A6 d6 w6 hacc; have HA6 := Lib.hid hacc; clear hacc) | (at_builtin; refine wpList_accMany rfl (.tmp 42) (.tmp 45) 24 rfl 26 _ 3 32 Tryz.underlying24 info_bk rfl (by decide) (by decide) HA6.out (Nat.le_refl _) rfl g 0 (n - (j + 1)) _ ((bks l).drop ((j + 1) * 3)) rfl hl3.out (fun k u hu => by rw [hl30.out hci] at hu; simp at hu) ho3.out (by omega) ?_; intro A7 d7 w7 hacc; have HA7 := Lib.hid hacc; clear hacc) | fail "app")
                go_ret2
                rw [HO.out, bks_ins]
                exact ⟨_, _, _, rfl, HA7.out.sl (by omega) (by omega), (bnext H1.out HBz.out (Nat.le_refl _)).trans (HA7.out.below (by omega) (by omega))⟩
              · go_wp2_with (first | (at_builtin; refine wpList_accMany rfl (.tmp 33) (.tmp 36) 24 rfl 26 _ 3 32 Tryz.underlying24 info_bk rfl (by decide) (by decide) (Acc.made wz 26 3) (Nat.le_refl _) rfl g 0 (j + 1) _ ((bks l).take ((j + 1) * 3)) rfl hl1.out hs1.out ho1.out (by omega) ?_; intro A5 d5 w5 hacc; rw [Nat.zero_add]; rw [Nat.zero_add, List.nil_append] at hacc; replace r0 := (hacc.cell (p := ⟨w.heap.size, 0, none⟩) hzz (by simp only; omega)).trans r0; replace r1 := (hacc.cell (p := ⟨w.heap.size, 1, none⟩) hzz (by simp only; omega)).trans r1; replace r2 := (hacc.cell (p := ⟨w.heap.size, 2, none⟩) hzz (by simp only; omega)).trans r2; have HA5 := Lib.hid hacc; clear hacc) | (at_builtin; refine wpList_acc rfl (.tmp 38) (.tmp 40) 24 rfl 26 _ 3 32 Tryz.underlying24 info_bk rfl (by decide) (by decide) HA5.out (Nat.le_refl _) rfl [.int .i64 x.day, .string x.client, .int .i64 x.amount] rfl rfl (bk1 x) (by omega) ?_; intro A6 d6 w6 hacc; have HA6 := Lib.hid hacc; clear hacc) | (at_builtin; refine wpList_accMany rfl (.tmp 42) (.tmp 45) 24 rfl 26 _ 3 32 Tryz.underlying24 info_bk rfl (by decide) (by decide) HA6.out (Nat.le_refl _) rfl g ((j + 1) * 3) (n - (j + 1)) _ ((bks l).drop ((j + 1) * 3)) rfl hl3.out (hs3.out _ _ _ _ _ HA6.out) ho3.out (by omega) ?_; intro A7 d7 w7 hacc; have HA7 := Lib.hid hacc; clear hacc) | fail "app")
                go_ret2
                rw [HO.out, bks_ins]
                exact ⟨_, _, _, rfl, HA7.out.sl (by omega) (by omega), (bnext H1.out HBz.out (Nat.le_refl _)).trans (HA7.out.below (by omega) (by omega))⟩

end Go.Proofs.YtjmlcobbjpmjpaaGreatDoor

namespace Go.Proofs.YtjmlcobbjpmjpaaGreatDoor
open Go.RowKit Stb

theorem indexFunc_nil (A : Option Addr) (c : Nat) (cb : Value) (w : World) :
    Calls Tryz.prog 141 #[.slice A 0 c, cb] w fun e w' => e = .returned (.int .i64 (-1)) ∧ w = w' := by
  go_enter Tryz.func141, Tryz.ntmps141
  go_wp2
  go_loop [8] (fun i => i = .int .i64 0) (fun _ => 0)
  case atStart => rfl
  case round =>
    obtain rfl := hrel
    go_wp2
    go_ret
    exact ⟨rfl, rfl⟩
theorem deleteFunc_nil (A : Option Addr) (c : Nat) (cb : Value) (w : World) :
    Calls Tryz.prog 74 #[.slice A 0 c, cb] w fun e w' => e = .returned (.slice A 0 c) ∧ w = w' := by
  go_enter Tryz.func74, Tryz.ntmps74
  go_wp2_with fail
  refine (indexFunc_nil A c cb w).mono ?_
  rintro e w' ⟨rfl, rfl⟩
  go_wp2
  go_ret
  exact ⟨rfl, rfl⟩
theorem insertion_nil (A : Option Addr) (c : Nat) (cb : Value) (w : World) :
    Calls Tryz.prog 180 #[.slice A 0 c, .int .i64 0, .int .i64 0, cb] w fun e w' => e = .returned (.tuple #[]) ∧ w = w' := by
  go_enter Tryz.func180, Tryz.ntmps180
  go_wp2
  go_loop [8] (fun i => i = .int .i64 1) (fun _ => 0)
  case atStart => rfl
  case round =>
    obtain rfl := hrel
    go_wp2
    go_end0
    exact ⟨rfl, rfl⟩
theorem stable_nil (A : Option Addr) (c : Nat) (cb : Value) (w : World) :
    Calls Tryz.prog 144 #[.slice A 0 c, .int .i64 0, cb] w fun e w' => e = .returned (.tuple #[]) ∧ w = w' := by
  go_enter Tryz.func144, Tryz.ntmps144
  go_wp2
  go_loop [7, 8] (fun i j => i = .int .i64 0 ∧ j = .int .i64 20) (fun _ _ => 0)
  case atStart => exact ⟨rfl, rfl⟩
  case round =>
    obtain ⟨rfl, rfl⟩ := hrel
    go_wp2_with fail
    refine (insertion_nil A c cb w).mono ?_
    rintro e w' ⟨rfl, rfl⟩
    go_wp2
    go_loop [6] (fun i => i = .int .i64 20) (fun _ => 0)
    case atStart => rfl
    case round =>
      obtain rfl := hrel
      go_wp2
      go_end0
      exact ⟨rfl, rfl⟩
theorem sortStable_nil (A : Option Addr) (c : Nat) (cb : Value) (w : World) :
    Calls Tryz.prog 77 #[.slice A 0 c, cb] w fun e w' => e = .returned (.tuple #[]) ∧ w = w' := by
  go_enter Tryz.func77, Tryz.ntmps77
  go_wp2_with fail
  refine (stable_nil A c cb w).mono ?_
  rintro e w' ⟨rfl, rfl⟩
  go_wp2
  go_end0
  exact ⟨rfl, rfl⟩
theorem filter_owes (l : List Bk) (d : Int) : ((namesB l).filter fun x => !(fun t => decide (bal l t d ≤ 0)) x) = (namesB l).filter (owes l d) := by
  apply List.filter_congr
  intro x _
  unfold owes
  by_cases h : 0 < bal l x d
  · have h2 : ¬ bal l x d ≤ 0 := by omega
    simp [h, h2]
  · have h2 : bal l x d ≤ 0 := by omega
    simp [h, h2]
set_option maxHeartbeats 2000000 in
set_option maxRecDepth 100000 in
theorem implDebtorsOn_any (A : Option Addr) (n c : Nat) (l : List Bk) (d : Int) (B : Nat) (w : World) (h : Reads w B 3 A n (bks l)) (hB : B ≤ w.heap.size) (hn : n ≤ 1048576) (hsm : ∀ x ∈ l, x.small) (hd : I64 d) :
    Calls Tryz.prog 17 #[.slice A n c, .int .i64 d] w fun e w' => ∃ A' m c', e = .returned (.tuple #[.slice A' m c', .int .i64 (debtorsN l d).2]) ∧ Sl w' w.heap.size w'.heap.size 9 1 A' m c' (strs (debtorsN l d).1) ∧ Below w.heap.size w w' := by
  obtain ⟨wq, hwq⟩ : ∃ y, (w.alloc (.cells #[.slice A n c] 24)).alloc (.cells #[.int .i64 d] 2) = y := ⟨_, rfl⟩
  have yl : Blk wq w.heap.size 24 #[.slice A n c] := by rw [← hwq]; exact (Blk.new _ _ _).alloc _
  have yd : Blk wq (w.heap.size + 1) 2 #[.int .i64 d] := by
    rw [← hwq]
    have := Blk.new (w.alloc (.cells #[.slice A n c] 24)) 2 #[.int .i64 d]
    simpa using this
  have bq : Below w.heap.size w wq := by rw [← hwq]; exact ((Below.refl _ _).alloc (Nat.le_refl _) _).alloc (by simp) _
  have zq : wq.heap.size = w.heap.size + 2 := by rw [← hwq]; simp
  have HBq := Lib.hid bq
  have HR := Lib.hid (h.on hB bq)
  have k1 : wq.cell? ⟨w.heap.size, 0, none⟩ = some (.slice A n c) := yl.cellAt 0 (by simp)
  have k2 : wq.cell? ⟨w.heap.size + 1, 0, none⟩ = some (.int .i64 d) := yd.cellAt 0 (by simp)
  clear h bq yl yd
  rcases hok : okBks l with _ | _
  · have hcode : codeI l ⟨#[97]⟩ d d = 1 := by simp [codeI, hok]
    have HO := Lib.hid (debtorsN_bad (d := d) hok)
    go_enter Tryz.func17, Tryz.ntmps17
    go_wp2_with fail
    refine (bookingsCode_any A n c l ⟨#[97]⟩ d d B wq HR.out (by omega) hn hsm (by decide)).mono ?_
    rw [hcode]
    rintro e w1 ⟨rfl, b1⟩
    have z1 := b1.size
    have HB1 := Lib.hid (bnext HBq.out b1 (Nat.le_refl _))
    clear b1 hwq
    go_wp2
    go_ret2
    rw [HO.out]
    exact ⟨_, _, _, rfl, Sl.nil _ _ _ _ _, HB1.out⟩
  rcases hday : inR d 0 20000 with _ | _
  · have hcode : codeI l ⟨#[97]⟩ d d = 2 := by
      rw [codeI_self]; simp [codeS, hok, hday]
    have HO := Lib.hid (debtorsN_day hok hday)
    go_enter Tryz.func17, Tryz.ntmps17
    go_wp2_with fail
    refine (bookingsCode_any A n c l ⟨#[97]⟩ d d B wq HR.out (by omega) hn hsm (by decide)).mono ?_
    rw [hcode]
    rintro e w1 ⟨rfl, b1⟩
    have z1 := b1.size
    have HB1 := Lib.hid (bnext HBq.out b1 (Nat.le_refl _))
    clear b1 hwq
    go_wp2
    go_ret2
    rw [HO.out]
    exact ⟨_, _, _, rfl, Sl.nil _ _ _ _ _, HB1.out⟩
  · have hcode : codeI l ⟨#[97]⟩ d d = 0 := by
      rw [codeI_self]
      have : isName ⟨#[97]⟩ = true := by decide
      simp [codeS, hok, hday, this]
    have HO := Lib.hid (debtorsN_ok hok hday)
    have HOK := Lib.hid hok
    go_enter Tryz.func17, Tryz.ntmps17
    go_wp2_with fail
    refine (bookingsCode_any A n c l ⟨#[97]⟩ d d B wq HR.out (by omega) hn hsm (by decide)).mono ?_
    rw [hcode]
    rintro e w1 ⟨rfl, b1⟩
    have z1 := b1.size
    have HB1 := Lib.hid (bnext HBq.out b1 (Nat.le_refl _))
    have HR1 := Lib.hid (HR.out.on (by omega) b1)
    have q1 := cell_on b1 k1
    have q2 := cell_on b1 k2
    have HL80 := Lib.hid (okBks_len hok)
    have HNL := Lib.hid (names_len l)
    clear b1 hwq k1 k2 hok hday hcode HR
    go_wp2_with fail
    refine (clientsBooked_any A n c B l w1 HR1.out (by omega) hn).mono ?_
    rintro e w2 ⟨A2, m2, c2, rfl, s2, b2⟩
    have z2 := b2.size
    have HB2 := Lib.hid (bnext HB1.out b2 (Nat.le_refl _))
    have HR2 := Lib.hid (HR1.out.on (by omega) b2)
    replace q1 := cell_on b2 q1
    replace q2 := cell_on b2 q2
    have hlen : (namesB l).length = m2 := by have := s2.len; rw [strs_length] at this; omega
    clear b2 HR1 HB1
    by_cases h0 : m2 = 0
    · subst h0
      have hnil : namesB l = [] := List.length_eq_zero_iff.1 hlen
      have HDN := Lib.hid (show debtF l d = [] by
        apply List.length_eq_zero_iff.1
        rw [debt_len, hnil]; rfl)
      have HS2 := Lib.hid s2
      have HNIL := Lib.hid hnil
      clear s2 hlen hnil
      go_wp2_with fail
      refine (deleteFunc_nil A2 c2 _ w2).mono ?_
      rintro e w' ⟨rfl, rfl⟩
      go_wp2_with fail
      refine (sortStable_nil A2 c2 _ w2).mono ?_
      rintro e w' ⟨rfl, rfl⟩
      go_wp2
      go_ret2
      rw [HO.out, HDN.out]
      refine ⟨A2, 0, c2, rfl, ?_, HB2.out⟩
      have := HS2.out.wide (lo' := w.heap.size) (by omega) (Nat.le_refl _)
      rw [HNIL.out] at this
      exact this
    · have hA2 : A2 ≠ none := by
        obtain ⟨g, rfl, _⟩ := s2.lt (by omega)
        simp
      obtain ⟨g, rfl, hg1, hg2, hg3, hnc⟩ : ∃ g, A2 = some ⟨g, 0, none⟩ ∧ w1.heap.size ≤ g ∧ g < w2.heap.size ∧ g < w2.heap.size ∧ m2 ≤ c2 := by
        rcases s2.form with ⟨h0', _⟩ | ⟨g, cur, hg, h2, h3, hb, hc, _⟩
        · exact absurd h0' hA2
        · exact ⟨g, hg, h2, h3, h3, hc⟩
      have hdel : DelAt w2 g w.heap.size (w.heap.size + 1) (fun t => decide (bal l t d ≤ 0)) := fun W x hW => by
        have zW := hW.size
        exact debt1_any A n c l d x w.heap.size (w.heap.size + 1) B W (HR2.out.keep fun p hp => World.cell?_of_block (hW.block p.block (by omega) (Or.inl (by omega)))) (by omega) HOK.out hd ((World.cell?_of_block (hW.block w.heap.size (by omega) (Or.inl (by omega)))).trans q1) ((World.cell?_of_block (hW.block (w.heap.size + 1) (by omega) (Or.inl (by omega)))).trans q2)
      have hcmp : CmpAt w2 g w.heap.size (w.heap.size + 1) (fun x y => cmpI (bal l y d) (bal l x d)) := fun W x y hW => by
        have zW := hW.size
        exact debt2_any A n c l d x y w.heap.size (w.heap.size + 1) B W (HR2.out.keep fun p hp => World.cell?_of_block (hW.block p.block (by omega) (Or.inl (by omega)))) (by omega) HOK.out hd ((World.cell?_of_block (hW.block w.heap.size (by omega) (Or.inl (by omega)))).trans q1) ((World.cell?_of_block (hW.block (w.heap.size + 1) (by omega) (Or.inl (by omega)))).trans q2)
      have HDEL := Lib.hid hdel
      have HCMP := Lib.hid hcmp
      have HS2 := Lib.hid s2
      have hm80 : m2 ≤ 80 := by have := HL80.out; have := HNL.out; omega
      clear s2 hdel hcmp hA2 q1 q2 HR2 h0
      go_wp2_with fail
      refine (deleteFunc_any g m2 c2 w1.heap.size w2.heap.size w.heap.size (w.heap.size + 1) _ (namesB l) w2 w2 HS2.out (by omega) hnc (Only.refl _ _ _) HDEL.out).mono ?_
      rw [filter_owes]
      rintro e w3 ⟨m3, rfl, hm3, s3, o3⟩
      have z3 := o3.size
      have hlen3 : m3 = ((namesB l).filter (owes l d)).length := by have := s3.len; rw [strs_length] at this; omega
      have s3' := s3
      rw [← row_of ((namesB l).filter (owes l d)), ← hlen3] at s3'
      have HS3 := Lib.hid s3'
      have HO3 := Lib.hid o3
      have HSRT := Lib.hid (show Srt (fun x y => sless x y = true) (fun k => ((namesB l).filter (owes l d)).getD k ⟨#[]⟩) 0 m3 by rw [hlen3]; exact srt_of (owes_ss l d))
      have HL3 := Lib.hid hlen3
      clear s3 s3' o3 hlen3 HS2
      go_wp2_with fail
      refine (sortStable_any g m3 c2 w1.heap.size w2.heap.size w.heap.size (w.heap.size + 1) _ (balR l d) _ w2 (by omega) HCMP.out (bal_ord l d) _ w3 HS3.out HO3.out HSRT.out).mono ?_
      rintro e w4 ⟨rfl, f4, s4, t4, r4, o4⟩
      have z4 := o4.size
      have HROW := Lib.hid (sorted_debt HL3.out t4 r4)
      have HB4 := Lib.hid (HB2.out.trans (o4.below (B := w.heap.size) (by omega) (by omega)))
      have HS4 := Lib.hid s4
      clear s4 t4 r4 o4
      go_wp2
      go_ret2
      rw [HO.out]
      refine ⟨_, m3, c2, rfl, ?_, HB4.out⟩
      have := HS4.out.wide (lo' := w.heap.size) (hi' := w4.heap.size) (by omega) (by omega)
      rw [HROW.out] at this
      exact this
end Go.Proofs.YtjmlcobbjpmjpaaGreatDoor
namespace Go.Proofs.YtjmlcobbjpmjpaaGreatDoor
open Go.RowKit

set_option maxHeartbeats 4000000 in
set_option maxRecDepth 100000 in
theorem specDebtorsOn_any (A : Option Addr) (n c : Nat) (l : List Bk) (dd : Int) (B : Nat) (w : World) (h : Reads w B 3 A n (bks l)) (hB : B ≤ w.heap.size) (hn : n ≤ 1048576) (hsm : ∀ x ∈ l, x.small) (hd : I64 dd) :
    Calls Tryz.prog 18 #[.slice A n c, .int .i64 dd] w fun e w' => ∃ A' m c', e = .returned (.tuple #[.slice A' m c', .int .i64 (debtorsN l dd).2]) ∧ Sl w' w.heap.size w'.heap.size 9 1 A' m c' (strs (debtorsN l dd).1) ∧ Below w.heap.size w w' := by
  rcases hok : okBks l with _ | _
  · have HO := Lib.hid (debtorsN_bad (d := dd) hok)
    have HOK := Lib.hid hok
    clear hok
    go_enter Tryz.func18, Tryz.ntmps18
    go_wp2_with fail
    refine (l25Ok_any A n c B l _ h hn hB hsm).mono ?_
    rw [HOK.out]
    rintro e w1 ⟨rfl, b1⟩
    have HB1 := Lib.hid b1
    clear b1
    go_wp2
    go_ret2
    rw [HO.out]
    exact ⟨_, _, _, rfl, Sl.nil _ _ _ _ _, HB1.out⟩
  rcases hday : inR dd 0 20000 with _ | _
  · have HO := Lib.hid (debtorsN_day hok hday)
    have HOK := Lib.hid hok
    have HD := Lib.hid hday
    clear hok hday
    go_enter Tryz.func18, Tryz.ntmps18
    go_wp2_with fail
    refine (l25Ok_any A n c B l _ h hn hB hsm).mono ?_
    rw [HOK.out]
    rintro e w1 ⟨rfl, b1⟩
    have HB1 := Lib.hid b1
    clear b1
    go_wp2_with fail
    refine (l25Day_any _ _).mono ?_
    rw [HD.out]
    rintro e w' ⟨rfl, rfl⟩
    go_wp2
    go_ret2
    rw [HO.out]
    exact ⟨_, _, _, rfl, Sl.nil _ _ _ _ _, HB1.out⟩
  · have HO := Lib.hid (debtorsN_ok hok hday)
    have HOK := Lib.hid hok
    have HD := Lib.hid hday
    have HL80 := Lib.hid (okBks_len hok)
    have HNL := Lib.hid (names_len l)
    clear hok hday
    go_enter Tryz.func18, Tryz.ntmps18
    go_wp2_with fail
    refine (l25Ok_any A n c B l _ h hn hB hsm).mono ?_
    rw [HOK.out]
    rintro e w1 ⟨rfl, b1⟩
    have z1 := b1.size
    have HR1 := Lib.hid (h.on hB b1)
    have HB1 := Lib.hid b1
    clear b1 h
    go_wp2_with fail
    refine (l25Day_any _ _).mono ?_
    rw [HD.out]
    rintro e w' ⟨rfl, rfl⟩
    go_wp2_with fail
    refine (l25Names_any A n c B l _ HR1.out (by omega) hn).mono ?_
    rintro e w2 ⟨A6, m6, c6, rfl, s6, b2⟩
    have z2 := b2.size
    have HR2 := Lib.hid (HR1.out.on (by omega) b2)
    have HB2 := Lib.hid (bnext HB1.out b2 (Nat.le_refl _))
    have HN := Lib.hid s6
    have hml : (namesB l).length = m6 := by have := s6.len; rw [strs_length] at this; omega
    have hm80 : m6 ≤ 80 := by have := HL80.out; have := HNL.out; omega
    have HML := Lib.hid hml
    have HSL0 := Lib.hid (Sl.made w2 9 1)
    clear b2 s6 hml HR1 HB1
    go_wp2
    go_loopw [7, 8] (fun o i wr => ∃ (k g cd : Nat) (xs : List ByteArray), k ≤ m6 ∧ i = .int .i64 (k : Int) ∧ o = .slice (some ⟨g, 0, none⟩) xs.length cd ∧ xs.Pairwise (balR l dd) ∧ (∀ t, t ∈ xs ↔ t ∈ ((namesB l).take k).filter (owes l dd)) ∧ xs.length ≤ k ∧ Sl wr w2.heap.size wr.heap.size 9 1 (some ⟨g, 0, none⟩) xs.length cd (strs xs) ∧ Below w2.heap.size w2 wr) (fun _ i _ => m6 - (intOf i).toNat)
    case atStart => exact ⟨0, w2.heap.size, 0, [], Nat.zero_le _, rfl, rfl, List.Pairwise.nil, fun t => by simp, Nat.le_refl _, HSL0.out.wide (Nat.le_refl _) (hi' := (w2.alloc (.cells #[] 9)).heap.size) (by simp), (Below.refl _ _).alloc (Nat.le_refl _) _⟩
    case round =>
      clear HSL0
      obtain ⟨k, g, cd, xs, hk, rfl, rfl, hpw, hmem, hxk, hsl, hbel⟩ := hrel
      have HSL := Lib.hid hsl
      have HB := Lib.hid hbel
      have HPW := Lib.hid hpw
      have HM := Lib.hid hmem
      have zr := hbel.size
      have hxd : xs.length ≤ cd := by
        rcases hsl.form with ⟨h1, _⟩ | ⟨g', cur, _, _, _, _, h2, _⟩
        · cases h1
        · exact h2
      have hg : g < wr.heap.size := hsl.2 _ rfl
      have hg0 : w2.heap.size ≤ g := by
        rcases hsl.form with ⟨h1, _⟩ | ⟨g', cur, h1, h2, _⟩
        · cases h1
        · injection h1 with h1; injection h1 with h1; subst h1; exact h2
      clear hsl hbel hpw hmem
      by_cases hlt : k < m6
      · obtain ⟨t, b, off, he, rfl, hb, c1⟩ := str_at ((HN.out.on HB.out).reads (B := w2.heap.size) (Nat.le_refl _)) hlt
        have HT := Lib.hid he
        have hk0 : (0 : Int) ≤ k := by omega
        have hk1 : (k : Int) < m6 := by omega
        have HBK := Lib.hid (HR2.out.on (by omega) HB.out)
        have R := HSL.out.reads (Nat.le_refl _)
        clear he
        go_wp2_with fail
        refine (l25Balance_any A n c l t dd B _ HBK.out HOK.out hd).mono ?_
        rintro e w' ⟨rfl, rfl⟩
        by_cases hpos : bal l t dd ≤ 0
        · have HMM := Lib.hid (show ∀ u, u ∈ xs ↔ u ∈ ((namesB l).take (k + 1)).filter (owes l dd) from fun u => by
            rw [HM.out, List.take_add_one, HT.out]
            have : ¬ 0 < bal l t dd := by omega
            simp [owes, this])
          clear c1 R
          go_wp2
          go_roundw
          case rel => exact ⟨k + 1, g, cd, xs, by omega, by go_num, rfl, HPW.out, HMM.out, by omega, HSL.out, HB.out⟩
          case measure => simp [intOf]; omega
        · have hpos' : decide (bal l t dd ≤ 0) = false := decide_eq_false hpos
          have HX := Lib.hid (show ∀ u, (u ∈ ((namesB l).take (k + 1)).filter (owes l dd)) ↔ (u ∈ ((namesB l).take k).filter (owes l dd) ∨ u = t) from fun u => by
            have h0 : 0 < bal l t dd := by omega
            rw [List.take_add_one, HT.out]
            simp [owes, h0])
          have HSM := Lib.hid (show ∀ u ∈ xs, sless u t = true from fun u hu => by
            have h1 := (List.mem_filter.1 ((HM.out u).1 hu)).1
            obtain ⟨i, hi, rfl⟩ := List.mem_iff_getElem.1 h1
            have hi2 : i < k ∧ i < (namesB l).length := by simp at hi; omega
            rw [List.getElem_take]
            obtain ⟨hkk, hkt⟩ := List.getElem?_eq_some_iff.1 HT.out
            rw [← hkt]
            exact List.pairwise_iff_getElem.1 (names_ss l) i k hi2.2 hkk hi2.1)
          have HNB := Lib.hid (show bal l t dd = bal l t dd from rfl)
          generalize hnb : bal l t dd = nb at *
          have HNB2 := Lib.hid hnb
          clear hnb HNB
          go_wp2
          rename World => wo
          go_loopw [10] (fun p wr => ∃ j : Nat, j ≤ xs.length ∧ p = .int .i64 (j : Int) ∧ (∀ (i : Nat) (y : ByteArray), j ≤ i → xs[i]? = some y → balR l dd t y) ∧ Below wo.heap.size wo wr) (fun p _ => (intOf p).toNat)
          case atStart =>
            have hst : ∀ (i : Nat) (y : ByteArray), xs.length ≤ i → xs[i]? = some y → balR l dd t y := fun i y hi hy => by
              rw [List.getElem?_eq_none hi] at hy; cases hy
            exact ⟨xs.length, Nat.le_refl _, rfl, hst, Below.refl _ _⟩
          case round =>
            obtain ⟨j, hj, rfl, hhi, hbel2⟩ := hrel
            have HHI := Lib.hid hhi
            have HB2 := Lib.hid hbel2
            have R2 := R.on (Nat.le_refl _) hbel2
            have HBK2 := Lib.hid (HBK.out.on (by omega) hbel2)
            have c1q := cell_on hbel2 c1
            clear hhi hbel2
            rcases Nat.eq_zero_or_pos j with h0 | h0
            · obtain rfl := h0
              have hp1 : decide ((0 : Int) < ((0 : Nat) : Int)) = false := rfl
              have hplace : (∀ (i : Nat) (y : ByteArray), i < 0 → xs[i]? = some y → balR l dd y t) ∧ (∀ (i : Nat) (y : ByteArray), 0 ≤ i → xs[i]? = some y → balR l dd t y) := ⟨fun i y hi => by omega, HHI.out⟩
              clear HHI
              obtain ⟨W, hW⟩ : ∃ W, wr = W := ⟨_, rfl⟩
              have hbelW : Below wo.heap.size wo W := by rw [← hW]; exact HB2.out
              rw [hW]
              clear hW HB2
              have zW := hbelW.size
              have HBW := Lib.hid (bnext HB.out hbelW (by omega))
              have HSLW := Lib.hid (HSL.out.on hbelW)
              have c1W := cell_on hbelW c1
              have HNEW := Lib.hid (pw_ins HPW.out (fun _ _ _ => balR_trans) hplace.1 hplace.2)
              have hcell := fun (V : World) (hV : V.heap[g]? = W.heap[g]?) (i : Nat) (u : Value) (hu : (strs xs)[i]? = some u) => show V.cell? ⟨g, i, none⟩ = some u from by
                have hi : i < xs.length := by have := (List.getElem?_eq_some_iff.1 hu).1; rwa [strs_length] at this
                rw [World.cell?_of_block hV, HSLW.out.cellAt i (by omega)]
                exact hu
              have HCELL := Lib.hid hcell
              clear hcell hplace hbelW c1q R2 HBK2
              have acc0 := Lib.hid (Acc.made W 9 1)
              have htk : strs (xs.take 0) = (strs xs).take 0 := by simp [strs, List.map_take]
              have hdr : strs (xs.drop 0) = (strs xs).drop 0 := by simp [strs, List.map_drop]
              have HDR := Lib.hid hdr
              have hc1 := Lib.hid (show ∀ i u, (strs (xs.take 0))[i]? = some u → (W.alloc (.cells #[] 9)).cell? ⟨g, 0 + i, none⟩ = some u from fun i u hu => by
                rw [Nat.zero_add]
                refine HCELL.out _ (Below.heap_alloc W _ g (by omega)) i u ?_
                rw [htk, List.getElem?_take] at hu
                split at hu
                · exact hu
                · cases hu)
              clear htk hdr
              have hj0 : (0 : Int) ≤ 0 := by omega
              have hj1 : (0 : Int) ≤ cd := by omega
              have hj2 : (0 : Int) ≤ xs.length := by omega
              have hgW : g < W.heap.size := by omega
              have hbW : b < W.heap.size := by omega
              have hge : ¬ g = W.heap.size := by omega
              have HLEN := Lib.hid (show (xs.take 0 ++ [t] ++ xs.drop 0).length = 0 + 1 + (xs.length - 0) by simp; omega)
              have HSTR := Lib.hid (show strs (xs.take 0 ++ [t] ++ xs.drop 0) = strs (xs.take 0) ++ [.string t] ++ strs (xs.drop 0) by simp [strs])
              have HMEM := Lib.hid (show ∀ u, u ∈ xs.take 0 ++ [t] ++ xs.drop 0 ↔ u ∈ ((namesB l).take (k + 1)).filter (owes l dd) from fun u => by
                rw [HX.out, ← HM.out]
                have e : u ∈ xs ↔ u ∈ xs.take 0 ∨ u ∈ xs.drop 0 := by rw [← List.mem_append, List.take_append_drop]
                rw [e]
                simp only [List.mem_append, List.mem_singleton]
                constructor
                · rintro ((h | h) | h)
                  · exact .inl (.inl h)
                  · exact .inr h
                  · exact .inl (.inr h)
                · rintro ((h | h) | h)
                  · exact .inl (.inl h)
                  · exact .inr h
                  · exact .inl (.inr h))
              go_wp2_with (first
                | (at_builtin; refine wpList_accMany rfl _ _ 36 rfl 9 _ 1 16 Tryz.underlying36 info_str rfl (by decide) (by decide) acc0.out (Nat.le_refl _) rfl g 0 0 cd (strs (xs.take 0)) rfl (by rw [strs_length, List.length_take]; omega) hc1.out (strs_one _) (by omega) ?_; intro A3 d3 w3 hacc3; rw [Nat.zero_add]; rw [Nat.zero_add, List.nil_append] at hacc3; have HA3 := Lib.hid hacc3; have c13 := (hacc3.cell (p := ⟨b, off + k, none⟩) hbW (by simp only; omega)).trans c1W; clear hacc3 acc0 hc1)
                | (at_builtin; refine wpList_acc rfl _ _ 36 rfl 9 _ 1 16 Tryz.underlying36 info_str rfl (by decide) (by decide) HA3.out (Nat.le_refl _) rfl [.string t] rfl rfl (fun u hu => by simp at hu; subst hu; rfl) (by omega) ?_; intro A4 d4 w4 hacc4; have HA4 := Lib.hid hacc4; clear hacc4 c13)
                | (at_builtin; refine wpList_accMany rfl _ _ 36 rfl 9 _ 1 16 Tryz.underlying36 info_str rfl (by decide) (by decide) HA4.out (Nat.le_refl _) rfl g 0 xs.length _ (strs (xs.drop 0)) rfl (by rw [strs_length, List.length_drop]; omega) (fun i u hu => (by rw [HDR.out, List.getElem?_drop] at hu; exact HCELL.out _ (HA4.out.block g hgW hge) _ u hu)) (strs_one _) (by omega) ?_; intro A5 d5 w5 hacc5; have sl5 := hacc5.sl (lo := w2.heap.size) (by omega) (by omega); have b5 := hacc5.below (B := w2.heap.size) (by omega) (by omega); obtain ⟨g5, rfl, _, _, _⟩ := sl5.lt (by omega); have HS5 := Lib.hid sl5; have HB5 := Lib.hid b5; clear sl5 b5 hacc5))
              go_roundw
              case rel => exact ⟨k + 1, g5, d5, _, by omega, by go_num, (by first | (rw [HLEN.out]; done) | (rw [HLEN.out]; rfl) | (rw [HLEN.out]; congr 1; omega)), HNEW.out, HMEM.out, by rw [HLEN.out]; omega, (by rw [HLEN.out, HSTR.out]; first | exact HS5.out | (have h9 := HS5.out; simpa [Nat.add_comm] using h9)), HBW.out.trans HB5.out⟩
              case measure => simp [intOf]; omega
            · obtain ⟨q, rfl⟩ : ∃ q, j = q + 1 := ⟨j - 1, by omega⟩
              clear h0
              obtain ⟨y, b', off', hy, hA, hb', cy⟩ := str_at R2 (show q < xs.length by omega)
              injection hA with hA; injection hA with hA hA2; subst hA; subst hA2
              rw [Nat.zero_add] at cy
              have hqw : IntKind.i64.wrap (q : Int) = q := by rw [IntKind.wrap_i64]; omega
              have hq0 : (0 : Int) ≤ q := by omega
              have hq1 : (q : Int) < xs.length := by omega
              have hq2 : decide ((0 : Int) < (q : Int) + 1) = true := by rw [decide_eq_true_iff]; omega
              have HY := Lib.hid hy
              clear hy
              by_cases hs : bal l y dd < nb
              · have HTY := Lib.hid (show balR l dd t y from .inl (by rw [HNB2.out]; exact hs))
                go_wp2_with fail
                refine (l25Balance_any A n c l y dd B _ HBK2.out HOK.out hd).mono ?_
                rintro e w' ⟨rfl, rfl⟩
                clear hqw hq2
                go_wp2
                go_roundw
                case rel => exact ⟨q, by omega, by go_num, fun i z hi hz => by
                  by_cases e : i = q
                  · subst e; rw [HY.out] at hz; injection hz with hz; subst hz; exact HTY.out
                  · exact HHI.out i z (by omega) hz, HB2.out⟩
                case measure => simp [intOf]
              · have hs' : decide (bal l y dd < nb) = false := decide_eq_false hs
                have hlo1 : balR l dd y t := by
                  by_cases e : nb < bal l y dd
                  · exact .inl (by rw [HNB2.out]; exact e)
                  · exact .inr ⟨by rw [HNB2.out]; omega, HSM.out y (List.mem_of_getElem? HY.out)⟩
                have hplace : (∀ (i : Nat) (z : ByteArray), i < q + 1 → xs[i]? = some z → balR l dd z t) ∧ (∀ (i : Nat) (z : ByteArray), q + 1 ≤ i → xs[i]? = some z → balR l dd t z) := ⟨fun i z hi hz => by
                  by_cases e : i = q
                  · subst e; rw [HY.out] at hz; injection hz with hz; subst hz; exact hlo1
                  · have hz2 := (List.getElem?_eq_some_iff.1 hz)
                    have hy2 := (List.getElem?_eq_some_iff.1 HY.out)
                    have := List.pairwise_iff_getElem.1 HPW.out i q hz2.1 hy2.1 (by omega)
                    rw [hz2.2, hy2.2] at this
                    exact balR_trans this hlo1, HHI.out⟩
                clear HHI hlo1
                go_wp2_with fail
                refine (l25Balance_any A n c l y dd B _ HBK2.out HOK.out hd).mono ?_
                rintro e w' ⟨rfl, rfl⟩
                clear hq2
                obtain ⟨W, hW⟩ : ∃ W, wr = W := ⟨_, rfl⟩
                have hbelW : Below wo.heap.size wo W := by rw [← hW]; exact HB2.out
                rw [hW]
                clear hW HB2
                have zW := hbelW.size
                have HBW := Lib.hid (bnext HB.out hbelW (by omega))
                have HSLW := Lib.hid (HSL.out.on hbelW)
                have c1W := cell_on hbelW c1
                have HNEW := Lib.hid (pw_ins HPW.out (fun _ _ _ => balR_trans) hplace.1 hplace.2)
                have hcell := fun (V : World) (hV : V.heap[g]? = W.heap[g]?) (i : Nat) (u : Value) (hu : (strs xs)[i]? = some u) => show V.cell? ⟨g, i, none⟩ = some u from by
                  have hi : i < xs.length := by have := (List.getElem?_eq_some_iff.1 hu).1; rwa [strs_length] at this
                  rw [World.cell?_of_block hV, HSLW.out.cellAt i (by omega)]
                  exact hu
                have HCELL := Lib.hid hcell
                clear hcell hplace hbelW c1q R2 HBK2
                have acc0 := Lib.hid (Acc.made W 9 1)
                have htk : strs (xs.take (q + 1)) = (strs xs).take (q + 1) := by simp [strs, List.map_take]
                have hdr : strs (xs.drop (q + 1)) = (strs xs).drop (q + 1) := by simp [strs, List.map_drop]
                have HDR := Lib.hid hdr
                have hc1 := Lib.hid (show ∀ i u, (strs (xs.take (q + 1)))[i]? = some u → (W.alloc (.cells #[] 9)).cell? ⟨g, 0 + i, none⟩ = some u from fun i u hu => by
                  rw [Nat.zero_add]
                  refine HCELL.out _ (Below.heap_alloc W _ g (by omega)) i u ?_
                  rw [htk, List.getElem?_take] at hu
                  split at hu
                  · exact hu
                  · cases hu)
                clear htk hdr
                have hj0 : (0 : Int) ≤ (q + 1) := by omega
                have hj1 : ((q + 1) : Int) ≤ cd := by omega
                have hj2 : ((q + 1) : Int) ≤ xs.length := by omega
                have hgW : g < W.heap.size := by omega
                have hbW : b < W.heap.size := by omega
                have hge : ¬ g = W.heap.size := by omega
                have HLEN := Lib.hid (show (xs.take (q + 1) ++ [t] ++ xs.drop (q + 1)).length = (q + 1) + 1 + (xs.length - (q + 1)) by simp; omega)
                have HSTR := Lib.hid (show strs (xs.take (q + 1) ++ [t] ++ xs.drop (q + 1)) = strs (xs.take (q + 1)) ++ [.string t] ++ strs (xs.drop (q + 1)) by simp [strs])
                have HMEM := Lib.hid (show ∀ u, u ∈ xs.take (q + 1) ++ [t] ++ xs.drop (q + 1) ↔ u ∈ ((namesB l).take (k + 1)).filter (owes l dd) from fun u => by
                  rw [HX.out, ← HM.out]
                  have e : u ∈ xs ↔ u ∈ xs.take (q + 1) ∨ u ∈ xs.drop (q + 1) := by rw [← List.mem_append, List.take_append_drop]
                  rw [e]
                  simp only [List.mem_append, List.mem_singleton]
                  constructor
                  · rintro ((h | h) | h)
                    · exact .inl (.inl h)
                    · exact .inr h
                    · exact .inl (.inr h)
                  · rintro ((h | h) | h)
                    · exact .inl (.inl h)
                    · exact .inr h
                    · exact .inl (.inr h))
                by_cases hdj : cd = q + 1
                · obtain rfl := hdj
                  go_wp2_with (first
                    | (at_builtin; refine wpList_accMany rfl _ _ 36 rfl 9 _ 1 16 Tryz.underlying36 info_str rfl (by decide) (by decide) acc0.out (Nat.le_refl _) rfl g 0 (q + 1) (q + 1) (strs (xs.take (q + 1))) rfl (by rw [strs_length, List.length_take]; omega) hc1.out (strs_one _) (by omega) ?_; intro A3 d3 w3 hacc3; rw [Nat.zero_add]; rw [Nat.zero_add, List.nil_append] at hacc3; have HA3 := Lib.hid hacc3; have c13 := (hacc3.cell (p := ⟨b, off + k, none⟩) hbW (by simp only; omega)).trans c1W; clear hacc3 acc0 hc1)
                    | (at_builtin; refine wpList_acc rfl _ _ 36 rfl 9 _ 1 16 Tryz.underlying36 info_str rfl (by decide) (by decide) HA3.out (Nat.le_refl _) rfl [.string t] rfl rfl (fun u hu => by simp at hu; subst hu; rfl) (by omega) ?_; intro A4 d4 w4 hacc4; have HA4 := Lib.hid hacc4; clear hacc4 c13)
                    | (at_builtin; refine wpList_accMany rfl _ _ 36 rfl 9 _ 1 16 Tryz.underlying36 info_str rfl (by decide) (by decide) HA4.out (Nat.le_refl _) rfl g 0 0 _ [] rfl rfl (fun i u hu => (by simp at hu)) (fun u hu => (by simp at hu)) (by omega) ?_; intro A5 d5 w5 hacc5; have sl5 := hacc5.sl (lo := w2.heap.size) (by omega) (by omega); have b5 := hacc5.below (B := w2.heap.size) (by omega) (by omega); obtain ⟨g5, rfl, _, _, _⟩ := sl5.lt (by omega); have HS5 := Lib.hid sl5; have HB5 := Lib.hid b5; clear sl5 b5 hacc5))
                  go_roundw
                  case rel => exact ⟨k + 1, g5, d5, _, by omega, by go_num, (by first | (rw [HLEN.out]; done) | (rw [HLEN.out]; rfl) | (rw [HLEN.out]; congr 1; omega)), HNEW.out, HMEM.out, by rw [HLEN.out]; omega, (by have h9 := HS5.out; have e1 : strs (xs.drop (q + 1)) = [] := (by rw [HDR.out]; exact List.drop_eq_nil_of_le (by rw [strs_length]; omega)); have e2 : q + 1 + 1 + (xs.length - (q + 1)) = q + 1 + 1 := (by omega); rw [HLEN.out, HSTR.out, e1, List.append_nil, e2]; simpa using h9), HBW.out.trans HB5.out⟩
                  case measure => simp [intOf]; omega
                · skip
                  go_wp2_with (first
                    | (at_builtin; refine wpList_accMany rfl _ _ 36 rfl 9 _ 1 16 Tryz.underlying36 info_str rfl (by decide) (by decide) acc0.out (Nat.le_refl _) rfl g 0 (q + 1) cd (strs (xs.take (q + 1))) rfl (by rw [strs_length, List.length_take]; omega) hc1.out (strs_one _) (by omega) ?_; intro A3 d3 w3 hacc3; rw [Nat.zero_add]; rw [Nat.zero_add, List.nil_append] at hacc3; have HA3 := Lib.hid hacc3; have c13 := (hacc3.cell (p := ⟨b, off + k, none⟩) hbW (by simp only; omega)).trans c1W; clear hacc3 acc0 hc1)
                    | (at_builtin; refine wpList_acc rfl _ _ 36 rfl 9 _ 1 16 Tryz.underlying36 info_str rfl (by decide) (by decide) HA3.out (Nat.le_refl _) rfl [.string t] rfl rfl (fun u hu => by simp at hu; subst hu; rfl) (by omega) ?_; intro A4 d4 w4 hacc4; have HA4 := Lib.hid hacc4; clear hacc4 c13)
                    | (at_builtin; refine wpList_accMany rfl _ _ 36 rfl 9 _ 1 16 Tryz.underlying36 info_str rfl (by decide) (by decide) HA4.out (Nat.le_refl _) rfl g (q + 1) (xs.length - (q + 1)) _ (strs (xs.drop (q + 1))) rfl (by rw [strs_length, List.length_drop]; omega) (fun i u hu => (by rw [HDR.out, List.getElem?_drop] at hu; exact HCELL.out _ (HA4.out.block g hgW hge) _ u hu)) (strs_one _) (by omega) ?_; intro A5 d5 w5 hacc5; have sl5 := hacc5.sl (lo := w2.heap.size) (by omega) (by omega); have b5 := hacc5.below (B := w2.heap.size) (by omega) (by omega); obtain ⟨g5, rfl, _, _, _⟩ := sl5.lt (by omega); have HS5 := Lib.hid sl5; have HB5 := Lib.hid b5; clear sl5 b5 hacc5))
                  go_roundw
                  case rel => exact ⟨k + 1, g5, d5, _, by omega, by go_num, (by first | (rw [HLEN.out]; done) | (rw [HLEN.out]; rfl) | (rw [HLEN.out]; congr 1; omega)), HNEW.out, HMEM.out, by rw [HLEN.out]; omega, (by rw [HLEN.out, HSTR.out]; first | exact HS5.out | (have h9 := HS5.out; simpa [Nat.add_comm] using h9)), HBW.out.trans HB5.out⟩
                  case measure => simp [intOf]; omega
      · obtain rfl : k = m6 := by omega
        have hxs : xs = debtF l dd := by
          have hm := HM.out
          rw [List.take_of_length_le (by have := HML.out; omega)] at hm
          exact debt_unique HPW.out hm
        go_wp2
        go_ret2
        rw [HO.out]
        exact ⟨_, _, _, rfl, by rw [← hxs]; exact HSL.out.wide (by omega) (Nat.le_refl _), HB2.out.trans (HB.out.mono (by omega))⟩
end Go.Proofs.YtjmlcobbjpmjpaaGreatDoor

