/- FnClients: a client added is found and active till its last day, contracts extended, texts read back; the law returns true for every code. -/
import Derived.Test.YtjmlcobbjpmjpaaGreatDoorMgClientsAC
import Derived.Test.YtjmlcobbjpmjpaaGreatDoorMgClientsAD
import Derived.Test.YtjmlcobbjpmjpaaGreatDoorMgClientsAE
import Derived.Test.YtjmlcobbjpmjpaaGreatDoorMgClientsAH
import Derived.Laws.StructEq
import Derived.Deep.DeepCutAuto
set_option linter.unusedVariables false
set_option linter.unusedSimpArgs false
namespace Go.Proofs.YtjmlcobbjpmjpaaGreatDoor.lawClients
open Go.RowKit Go.Proofs.YtjmlcobbjpmjpaaGreatDoor

theorem textCl_small (x : Cl) : (textCl x).size ≤ 1048576 := by
  rcases h : okCl x with _ | _
  · rw [textCl_no h]; decide
  · have := textCl_size h; omega
theorem text_empty (x : Cl) : (textCl x).toList.isEmpty = !okCl x := by
  have := text_ne x
  rw [← this]
  cases (textCl x).toList <;> simp
theorem specValidClients_any (A : Option Addr) (n c : Nat) (l : List Cl) (B : Nat) (w : World) (h : Reads w B 5 A n (cls l)) (hB : B ≤ w.heap.size) (hn : n ≤ 1048576) (hsm : ∀ x ∈ l, x.small) (hgd : ∀ x ∈ l, x.good) :
    Calls Tryz.prog 47 #[.slice A n c] w fun e w' => e = .returned (.bool (okCls l)) ∧ Below w.heap.size w w' := by
  go_enter Tryz.func47, Tryz.ntmps47
  go_wp2_with fail
  refine (l24Ok_any A n c l B _ h hB hn hsm hgd).mono ?_
  rintro e w1 ⟨rfl, b1⟩
  go_wp2
  go_ret
  exact ⟨rfl, b1⟩
set_option maxHeartbeats 4000000 in
set_option maxRecDepth 100000 in
theorem walk (A0 : Option Addr) (n0 c0 : Nat) (bs : List Int) (w : World) (h0 : Reads w w.heap.size 1 A0 n0 (byts bs)) (hn0 : n0 ≤ 9223372036854775807) (hb0 : ∀ x ∈ bs, Byt x) (m : Int) (hm : w.cell? ⟨0, 0, none⟩ = some (.int .i64 m)) (ht : TabP w) (hv : SynP w) :
    Calls Tryz.prog 4 #[.slice A0 n0 c0] w fun e w' => e = .returned (.bool true) ∧ Below w.heap.size w w' := by
  have HT := Lib.hid ht
  have HM := Lib.hid hm
  have HV := Lib.hid hv
  have HB0 := Lib.hid hb0
  clear hm hv ht hb0
  go_enter Tryz.func4, Tryz.ntmps4
  go_wp2_with fail
  refine (f6big_any A0 n0 c0 _ hn0).mono ?_
  rintro e w' ⟨rfl, rfl⟩
  by_cases hbig : 4096 < n0
  · rw [decide_eq_true hbig]
    go_wp2
    go_ret
    exact ⟨rfl, Below.refl _ _⟩
  · rw [decide_eq_false hbig]
    go_wp2_with fail
    refine (drawAddClient_any _ _ _ bs _ ((h0.on (Nat.le_refl _) (Below.refl w.heap.size w)).more (Below.refl w.heap.size w).size) HB0.out hn0).mono ?_
    rintro e w1 ⟨la, Aa, da, xa, rfl, hxa, hla, hga, sa, b1⟩
    have z1 := b1.size
    have H1 := Lib.hid (bnext (Below.refl w.heap.size w) b1 (Nat.le_refl _))
    clear b1
    have Ga := Lib.hid (show (∀ z ∈ la, z.small) ∧ (∀ z ∈ la, z.good) from ⟨fun z hz => (hga z hz).2, fun z hz => (hga z hz).1⟩)
    clear hga
    obtain ⟨ga, rfl, _, _, _, hda⟩ := sa.at0 hla.2
    have HXA := Lib.hid hxa
    clear hxa
    obtain ⟨w2, hw2⟩ : ∃ y, w1.alloc (.cells #[.string xa.name, .int .i64 xa.station, .int .i64 xa.from_, .int .i64 xa.to_, .int .i64 xa.quota] 48) = y := ⟨_, rfl⟩
    have b2 : Below w1.heap.size w1 w2 := by rw [← hw2]; exact (Below.refl _ _).alloc (Nat.le_refl _) _
    have ya : Blk w2 w1.heap.size 48 #[.string xa.name, .int .i64 xa.station, .int .i64 xa.from_, .int .i64 xa.to_, .int .i64 xa.quota] := by rw [← hw2]; exact Blk.new _ _ _
    have z2 : w1.heap.size < w2.heap.size := by rw [← hw2]; simp
    replace sa := sa.on b2
    have H2 := Lib.hid (bnext H1.out b2 (Nat.le_refl _))
    clear b2
    have k0 := ya.cellAt 0 (by simp)
    have k1 := ya.cellAt 1 (by simp)
    have k2 := ya.cellAt 2 (by simp)
    have k3 := ya.cellAt 3 (by simp)
    have k4 := ya.cellAt 4 (by simp)
    simp only [List.getElem_toArray, List.getElem_cons_zero, List.getElem_cons_succ] at k0 k1 k2 k3 k4
    go_wp2_with fail
    refine (implAddClient_any ga la.length da la xa _ _ (sa.reads (by omega)) (Nat.le_refl _) (by omega) Ga.out.1 Ga.out.2 HXA.out.1 HXA.out.2).mono ?_
    rintro e w3 ⟨A1, m1, d1, rfl, s1, b3⟩
    have z3 := b3.size
    replace sa := sa.on b3
    replace ya := ya.on b3
    have H3 := Lib.hid (bnext H2.out b3 (Nat.le_refl _))
    clear b3
    clear hw2
    clear k0 k1 k2 k3 k4
    have k0 := ya.cellAt 0 (by simp)
    have k1 := ya.cellAt 1 (by simp)
    have k2 := ya.cellAt 2 (by simp)
    have k3 := ya.cellAt 3 (by simp)
    have k4 := ya.cellAt 4 (by simp)
    simp only [List.getElem_toArray, List.getElem_cons_zero, List.getElem_cons_succ] at k0 k1 k2 k3 k4
    go_wp2_with fail
    refine (specAddClient_any ga la.length da la xa _ _ (sa.reads (by omega)) (Nat.le_refl _) (by omega) Ga.out.1 Ga.out.2 HXA.out.1 HXA.out.2).mono ?_
    rintro e w4 ⟨A2, m2, d2, rfl, s2, b4⟩
    have z4 := b4.size
    replace sa := sa.on b4
    replace ya := ya.on b4
    replace s1 := s1.on b4
    have H4 := Lib.hid (bnext H3.out b4 (Nat.le_refl _))
    clear b4
    clear k0 k1 k2 k3 k4
    obtain rfl : m1 = m2 := by have h1 := s1.len; have h2 := s2.len; omega
    have hm1 : m1 = (addF la xa).1.length := by have h1 := s1.len; rw [cls_length] at h1; omega
    have hm1b := addF_len la xa
    have HM1 := Lib.hid hm1
    have hm1c : m1 ≤ 31 := by omega
    clear hm1 hm1b
    go_upto_region 6 with fail
    as_aux_lemma =>
      go_wp2_with fail
      refine (drawExtendContract_any _ _ _ bs _ ((h0.on (Nat.le_refl _) H4.out).more H4.out.size) HB0.out hn0).mono ?_
      rintro e w5 ⟨lb, Ab, db, nb, db2, rfl, hnb, hdb, hlb, hgb, sb, b5⟩
      have z5 := b5.size
      replace sa := sa.on b5
      replace ya := ya.on b5
      replace s1 := s1.on b5
      replace s2 := s2.on b5
      have H5 := Lib.hid (bnext H4.out b5 (Nat.le_refl _))
      clear b5
      have Gb := Lib.hid (show (∀ z ∈ lb, z.small) ∧ (∀ z ∈ lb, z.good) from ⟨fun z hz => (hgb z hz).2, fun z hz => (hgb z hz).1⟩)
      clear hgb
      go_wp2_with fail
      refine (implExtendContract_any _ _ _ lb nb db2 _ _ (sb.reads (by omega)) (Nat.le_refl _) (by omega) Gb.out.1 Gb.out.2 hnb hdb).mono ?_
      rintro e w6 ⟨A3, m3, d3, rfl, s3, b6⟩
      have z6 := b6.size
      replace sa := sa.on b6
      replace ya := ya.on b6
      replace s1 := s1.on b6
      replace s2 := s2.on b6
      replace sb := sb.on b6
      have H6 := Lib.hid (bnext H5.out b6 (Nat.le_refl _))
      clear b6
      go_wp2_with fail
      refine (specExtendContract_any _ _ _ lb nb db2 _ _ (sb.reads (by omega)) (Nat.le_refl _) (by omega) Gb.out.1 Gb.out.2 hnb hdb).mono ?_
      rintro e w7 ⟨A4, m4, d4, rfl, s4, b7⟩
      have z7 := b7.size
      replace sa := sa.on b7
      replace ya := ya.on b7
      replace s1 := s1.on b7
      replace s2 := s2.on b7
      replace sb := sb.on b7
      replace s3 := s3.on b7
      have H7 := Lib.hid (bnext H6.out b7 (Nat.le_refl _))
      clear b7
      obtain rfl : m3 = m4 := by have h1 := s3.len; have h2 := s4.len; omega
      have hm3 : m3 ≤ 1048576 := cntExtendContract_len s3.len
      go_upto_region 9 with fail
      as_aux_lemma =>
        go_wp2_with fail
        refine (drawClientOf_any _ _ _ bs _ ((h0.on (Nat.le_refl _) H7.out).more H7.out.size) HB0.out hn0).mono ?_
        rintro e w8 ⟨lc, Ac, dc, nc, rfl, hnc, hlc, hgc, sc, b8⟩
        have z8 := b8.size
        replace sa := sa.on b8
        replace ya := ya.on b8
        replace s1 := s1.on b8
        replace s2 := s2.on b8
        replace sb := sb.on b8
        replace s3 := s3.on b8
        replace s4 := s4.on b8
        have H8 := Lib.hid (bnext H7.out b8 (Nat.le_refl _))
        clear b8
        have Gc := Lib.hid (show (∀ z ∈ lc, z.small) ∧ (∀ z ∈ lc, z.good) from ⟨fun z hz => (hgc z hz).2, fun z hz => (hgc z hz).1⟩)
        clear hgc
        go_wp2_with fail
        refine (implClientOf_any _ _ _ lc nc _ _ (sc.reads (by omega)) (Nat.le_refl _) (by omega) Gc.out.1 Gc.out.2 hnc).mono ?_
        rintro e w9 ⟨rfl, b9⟩
        have z9 := b9.size
        replace sa := sa.on b9
        replace ya := ya.on b9
        replace s1 := s1.on b9
        replace s2 := s2.on b9
        replace sb := sb.on b9
        replace s3 := s3.on b9
        replace s4 := s4.on b9
        replace sc := sc.on b9
        have H9 := Lib.hid (bnext H8.out b9 (Nat.le_refl _))
        clear b9
        obtain ⟨w10, hw10⟩ : ∃ y, w9.alloc (.cells #[.string (clientF lc nc).1.name, .int .i64 (clientF lc nc).1.station, .int .i64 (clientF lc nc).1.from_, .int .i64 (clientF lc nc).1.to_, .int .i64 (clientF lc nc).1.quota] 48) = y := ⟨_, rfl⟩
        have b10 : Below w9.heap.size w9 w10 := by rw [← hw10]; exact (Below.refl _ _).alloc (Nat.le_refl _) _
        have y1 : Blk w10 w9.heap.size 48 #[.string (clientF lc nc).1.name, .int .i64 (clientF lc nc).1.station, .int .i64 (clientF lc nc).1.from_, .int .i64 (clientF lc nc).1.to_, .int .i64 (clientF lc nc).1.quota] := by rw [← hw10]; exact Blk.new _ _ _
        have z10 : w9.heap.size < w10.heap.size := by rw [← hw10]; simp
        replace sa := sa.on b10
        replace ya := ya.on b10
        replace s1 := s1.on b10
        replace s2 := s2.on b10
        replace sb := sb.on b10
        replace s3 := s3.on b10
        replace s4 := s4.on b10
        replace sc := sc.on b10
        have H10 := Lib.hid (bnext H9.out b10 (Nat.le_refl _))
        clear b10
        go_wp2_with fail
        refine (specClientOf_any _ _ _ lc nc _ _ (sc.reads (by omega)) (Nat.le_refl _) (by omega) Gc.out.1 Gc.out.2 hnc).mono ?_
        rintro e w11 ⟨rfl, b11⟩
        have z11 := b11.size
        replace sa := sa.on b11
        replace ya := ya.on b11
        replace s1 := s1.on b11
        replace s2 := s2.on b11
        replace sb := sb.on b11
        replace s3 := s3.on b11
        replace s4 := s4.on b11
        replace sc := sc.on b11
        replace y1 := y1.on b11
        have H11 := Lib.hid (bnext H10.out b11 (Nat.le_refl _))
        clear b11
        clear sc
        clear hw10
        obtain ⟨w12, hw12⟩ : ∃ y, w11.alloc (.cells #[.string (clientF lc nc).1.name, .int .i64 (clientF lc nc).1.station, .int .i64 (clientF lc nc).1.from_, .int .i64 (clientF lc nc).1.to_, .int .i64 (clientF lc nc).1.quota] 48) = y := ⟨_, rfl⟩
        have b12 : Below w11.heap.size w11 w12 := by rw [← hw12]; exact (Below.refl _ _).alloc (Nat.le_refl _) _
        have y2 : Blk w12 w11.heap.size 48 #[.string (clientF lc nc).1.name, .int .i64 (clientF lc nc).1.station, .int .i64 (clientF lc nc).1.from_, .int .i64 (clientF lc nc).1.to_, .int .i64 (clientF lc nc).1.quota] := by rw [← hw12]; exact Blk.new _ _ _
        have z12 : w11.heap.size < w12.heap.size := by rw [← hw12]; simp
        replace sa := sa.on b12
        replace ya := ya.on b12
        replace s1 := s1.on b12
        replace s2 := s2.on b12
        replace sb := sb.on b12
        replace s3 := s3.on b12
        replace s4 := s4.on b12
        replace y1 := y1.on b12
        have H12 := Lib.hid (bnext H11.out b12 (Nat.le_refl _))
        clear b12
        generalize clientF lc nc = cc at *
        go_wp2_with fail
        refine (drawClientText_any _ _ _ bs _ ((h0.on (Nat.le_refl _) H12.out).more H12.out.size) HB0.out hn0).mono ?_
        rintro e w13 ⟨xd, rfl, hxd, b13⟩
        have z13 := b13.size
        replace sa := sa.on b13
        replace ya := ya.on b13
        replace s1 := s1.on b13
        replace s2 := s2.on b13
        replace sb := sb.on b13
        replace s3 := s3.on b13
        replace s4 := s4.on b13
        replace y1 := y1.on b13
        replace y2 := y2.on b13
        have H13 := Lib.hid (bnext H12.out b13 (Nat.le_refl _))
        clear b13
        clear hw12
        have HXD := Lib.hid hxd
        clear hxd
        obtain ⟨w14, hw14⟩ : ∃ y, w13.alloc (.cells #[.string xd.name, .int .i64 xd.station, .int .i64 xd.from_, .int .i64 xd.to_, .int .i64 xd.quota] 48) = y := ⟨_, rfl⟩
        have b14 : Below w13.heap.size w13 w14 := by rw [← hw14]; exact (Below.refl _ _).alloc (Nat.le_refl _) _
        have yd : Blk w14 w13.heap.size 48 #[.string xd.name, .int .i64 xd.station, .int .i64 xd.from_, .int .i64 xd.to_, .int .i64 xd.quota] := by rw [← hw14]; exact Blk.new _ _ _
        have z14 : w13.heap.size < w14.heap.size := by rw [← hw14]; simp
        replace sa := sa.on b14
        replace ya := ya.on b14
        replace s1 := s1.on b14
        replace s2 := s2.on b14
        replace sb := sb.on b14
        replace s3 := s3.on b14
        replace s4 := s4.on b14
        replace y1 := y1.on b14
        replace y2 := y2.on b14
        have H14 := Lib.hid (bnext H13.out b14 (Nat.le_refl _))
        clear b14
        have k0 := yd.cellAt 0 (by simp)
        have k1 := yd.cellAt 1 (by simp)
        have k2 := yd.cellAt 2 (by simp)
        have k3 := yd.cellAt 3 (by simp)
        have k4 := yd.cellAt 4 (by simp)
        simp only [List.getElem_toArray, List.getElem_cons_zero, List.getElem_cons_succ] at k0 k1 k2 k3 k4
        go_wp2_with fail
        refine (implClientText_any xd _ HXD.out.1 (tabUp HT.out H14.out)).mono ?_
        rintro e w15 ⟨rfl, b15⟩
        have z15 := b15.size
        replace sa := sa.on b15
        replace ya := ya.on b15
        replace s1 := s1.on b15
        replace s2 := s2.on b15
        replace sb := sb.on b15
        replace s3 := s3.on b15
        replace s4 := s4.on b15
        replace y1 := y1.on b15
        replace y2 := y2.on b15
        replace yd := yd.on b15
        have H15 := Lib.hid (bnext H14.out b15 (Nat.le_refl _))
        clear b15
        clear hw14
        clear k0 k1 k2 k3 k4
        obtain ⟨tx, htx⟩ : ∃ y, textCl xd = y := ⟨_, rfl⟩
        have HTX := Lib.hid htx
        have htxs : tx.size ≤ 1048576 := by rw [← htx]; exact textCl_small xd
        rw [htx]
        clear htx
        go_wp2_with fail
        refine (implReadClient_any tx m _ htxs (cell_on H15.out HM.out) (tabUp HT.out H15.out) (synUp HV.out H15.out)).mono ?_
        rintro e w16 ⟨rfl, b16⟩
        have z16 := b16.size
        replace sa := sa.on b16
        replace ya := ya.on b16
        replace s1 := s1.on b16
        replace s2 := s2.on b16
        replace sb := sb.on b16
        replace s3 := s3.on b16
        replace s4 := s4.on b16
        replace y1 := y1.on b16
        replace y2 := y2.on b16
        replace yd := yd.on b16
        have H16 := Lib.hid (bnext H15.out b16 (Nat.le_refl _))
        clear b16
        obtain ⟨bc, bo, hbk⟩ : ∃ a b, rcF tx = (a, b) := ⟨_, _, rfl⟩
        have HBK := Lib.hid hbk
        rw [hbk]
        clear hbk
        dsimp only
        obtain ⟨w17, hw17⟩ : ∃ y, w16.alloc (.cells #[.string bc.name, .int .i64 bc.station, .int .i64 bc.from_, .int .i64 bc.to_, .int .i64 bc.quota] 48) = y := ⟨_, rfl⟩
        have b17 : Below w16.heap.size w16 w17 := by rw [← hw17]; exact (Below.refl _ _).alloc (Nat.le_refl _) _
        have y3 : Blk w17 w16.heap.size 48 #[.string bc.name, .int .i64 bc.station, .int .i64 bc.from_, .int .i64 bc.to_, .int .i64 bc.quota] := by rw [← hw17]; exact Blk.new _ _ _
        have z17 : w16.heap.size < w17.heap.size := by rw [← hw17]; simp
        replace sa := sa.on b17
        replace ya := ya.on b17
        replace s1 := s1.on b17
        replace s2 := s2.on b17
        replace sb := sb.on b17
        replace s3 := s3.on b17
        replace s4 := s4.on b17
        replace y1 := y1.on b17
        replace y2 := y2.on b17
        replace yd := yd.on b17
        have H17 := Lib.hid (bnext H16.out b17 (Nat.le_refl _))
        clear b17
        go_wp2_with fail
        refine (drawReadClient_any _ _ _ bs _ ((h0.on (Nat.le_refl _) H17.out).more H17.out.size) HB0.out hn0).mono ?_
        rintro e w18 ⟨tr, rfl, htr, b18⟩
        have z18 := b18.size
        replace sa := sa.on b18
        replace ya := ya.on b18
        replace s1 := s1.on b18
        replace s2 := s2.on b18
        replace sb := sb.on b18
        replace s3 := s3.on b18
        replace s4 := s4.on b18
        replace y1 := y1.on b18
        replace y2 := y2.on b18
        replace yd := yd.on b18
        replace y3 := y3.on b18
        have H18 := Lib.hid (bnext H17.out b18 (Nat.le_refl _))
        clear b18
        clear hw17
        go_upto_region 16 with fail
        as_aux_lemma =>
          go_wp2_with fail
          refine (implReadClient_any tr m _ (by omega) (cell_on H18.out HM.out) (tabUp HT.out H18.out) (synUp HV.out H18.out)).mono ?_
          rintro e w19 ⟨rfl, b19⟩
          have z19 := b19.size
          replace sa := sa.on b19
          replace ya := ya.on b19
          replace s1 := s1.on b19
          replace s2 := s2.on b19
          replace sb := sb.on b19
          replace s3 := s3.on b19
          replace s4 := s4.on b19
          replace y1 := y1.on b19
          replace y2 := y2.on b19
          replace yd := yd.on b19
          replace y3 := y3.on b19
          have H19 := Lib.hid (bnext H18.out b19 (Nat.le_refl _))
          clear b19
          obtain ⟨w20, hw20⟩ : ∃ y, w19.alloc (.cells #[.string (rcF tr).1.name, .int .i64 (rcF tr).1.station, .int .i64 (rcF tr).1.from_, .int .i64 (rcF tr).1.to_, .int .i64 (rcF tr).1.quota] 48) = y := ⟨_, rfl⟩
          have b20 : Below w19.heap.size w19 w20 := by rw [← hw20]; exact (Below.refl _ _).alloc (Nat.le_refl _) _
          have y4 : Blk w20 w19.heap.size 48 #[.string (rcF tr).1.name, .int .i64 (rcF tr).1.station, .int .i64 (rcF tr).1.from_, .int .i64 (rcF tr).1.to_, .int .i64 (rcF tr).1.quota] := by rw [← hw20]; exact Blk.new _ _ _
          have z20 : w19.heap.size < w20.heap.size := by rw [← hw20]; simp
          replace sa := sa.on b20
          replace ya := ya.on b20
          replace s1 := s1.on b20
          replace s2 := s2.on b20
          replace sb := sb.on b20
          replace s3 := s3.on b20
          replace s4 := s4.on b20
          replace y1 := y1.on b20
          replace y2 := y2.on b20
          replace yd := yd.on b20
          replace y3 := y3.on b20
          have H20 := Lib.hid (bnext H19.out b20 (Nat.le_refl _))
          clear b20
          go_wp2_with fail
          refine (specReadClient_any tr _ (by omega)).mono ?_
          rintro e w21 ⟨rfl, b21⟩
          have z21 := b21.size
          replace sa := sa.on b21
          replace ya := ya.on b21
          replace s1 := s1.on b21
          replace s2 := s2.on b21
          replace sb := sb.on b21
          replace s3 := s3.on b21
          replace s4 := s4.on b21
          replace y1 := y1.on b21
          replace y2 := y2.on b21
          replace yd := yd.on b21
          replace y3 := y3.on b21
          replace y4 := y4.on b21
          have H21 := Lib.hid (bnext H20.out b21 (Nat.le_refl _))
          clear b21
          clear hw20
          obtain ⟨w22, hw22⟩ : ∃ y, w21.alloc (.cells #[.string (rcF tr).1.name, .int .i64 (rcF tr).1.station, .int .i64 (rcF tr).1.from_, .int .i64 (rcF tr).1.to_, .int .i64 (rcF tr).1.quota] 48) = y := ⟨_, rfl⟩
          have b22 : Below w21.heap.size w21 w22 := by rw [← hw22]; exact (Below.refl _ _).alloc (Nat.le_refl _) _
          have y5 : Blk w22 w21.heap.size 48 #[.string (rcF tr).1.name, .int .i64 (rcF tr).1.station, .int .i64 (rcF tr).1.from_, .int .i64 (rcF tr).1.to_, .int .i64 (rcF tr).1.quota] := by rw [← hw22]; exact Blk.new _ _ _
          have z22 : w21.heap.size < w22.heap.size := by rw [← hw22]; simp
          replace sa := sa.on b22
          replace ya := ya.on b22
          replace s1 := s1.on b22
          replace s2 := s2.on b22
          replace sb := sb.on b22
          replace s3 := s3.on b22
          replace s4 := s4.on b22
          replace y1 := y1.on b22
          replace y2 := y2.on b22
          replace yd := yd.on b22
          replace y3 := y3.on b22
          replace y4 := y4.on b22
          have H22 := Lib.hid (bnext H21.out b22 (Nat.le_refl _))
          clear b22
          generalize rcF tr = rr at *
          go_wp2_with fail
          refine (drawSameClients_any _ _ _ bs _ ((h0.on (Nat.le_refl _) H22.out).more H22.out.size) HB0.out hn0).mono ?_
          rintro e w23 ⟨le, Ae, de, lf, Af, df, rfl, hle, hlf, se, sf, b23⟩
          have z23 := b23.size
          replace sa := sa.on b23
          replace ya := ya.on b23
          replace s1 := s1.on b23
          replace s2 := s2.on b23
          replace sb := sb.on b23
          replace s3 := s3.on b23
          replace s4 := s4.on b23
          replace y1 := y1.on b23
          replace y2 := y2.on b23
          replace yd := yd.on b23
          replace y3 := y3.on b23
          replace y4 := y4.on b23
          replace y5 := y5.on b23
          have H23 := Lib.hid (bnext H22.out b23 (Nat.le_refl _))
          clear b23
          clear hw22
          go_upto_region 19 with fail
          as_aux_lemma =>
            go_cut [200] (fun sv wx => sv = .bool false ∧ Below w23.heap.size w23 wx)
            case first => as_aux_lemma =>
              go_wp2_with fail
              refine (specSameClients_any _ _ _ (addF la xa).1 _ _ _ (addF la xa).1 _ _ (s1.reads (by omega)) (s2.reads (by omega)) (Nat.le_refl _) (by omega) (by omega)).mono ?_
              rw [sameCls_refl]
              rintro e w24 ⟨rfl, b24⟩
              have z24 := b24.size
              replace sa := sa.on b24
              replace ya := ya.on b24
              replace s1 := s1.on b24
              replace s2 := s2.on b24
              replace sb := sb.on b24
              replace s3 := s3.on b24
              replace s4 := s4.on b24
              replace y1 := y1.on b24
              replace y2 := y2.on b24
              replace yd := yd.on b24
              replace y3 := y3.on b24
              replace y4 := y4.on b24
              replace y5 := y5.on b24
              replace se := se.on b24
              replace sf := sf.on b24
              have H24 := Lib.hid (bnext (Below.refl w23.heap.size w23) b24 (Nat.le_refl _))
              clear b24
              clear s1
              clear s2
              go_wp2_with fail
              refine (specSameClients_any _ _ _ (extF lb nb db2).1 _ _ _ (extF lb nb db2).1 _ _ (s3.reads (by omega)) (s4.reads (by omega)) (Nat.le_refl _) hm3 hm3).mono ?_
              rw [sameCls_refl]
              rintro e w25 ⟨rfl, b25⟩
              have z25 := b25.size
              replace sa := sa.on b25
              replace ya := ya.on b25
              replace sb := sb.on b25
              replace s3 := s3.on b25
              replace s4 := s4.on b25
              replace y1 := y1.on b25
              replace y2 := y2.on b25
              replace yd := yd.on b25
              replace y3 := y3.on b25
              replace y4 := y4.on b25
              replace y5 := y5.on b25
              replace se := se.on b25
              replace sf := sf.on b25
              have H25 := Lib.hid (bnext H24.out b25 (Nat.le_refl _))
              clear b25
              clear s3
              clear s4
              have p0 := y1.cellAt 0 (by simp)
              have p1 := y1.cellAt 1 (by simp)
              have p2 := y1.cellAt 2 (by simp)
              have p3 := y1.cellAt 3 (by simp)
              have p4 := y1.cellAt 4 (by simp)
              simp only [List.getElem_toArray, List.getElem_cons_zero, List.getElem_cons_succ] at p0 p1 p2 p3 p4
              have q0 := y2.cellAt 0 (by simp)
              have q1 := y2.cellAt 1 (by simp)
              have q2 := y2.cellAt 2 (by simp)
              have q3 := y2.cellAt 3 (by simp)
              have q4 := y2.cellAt 4 (by simp)
              simp only [List.getElem_toArray, List.getElem_cons_zero, List.getElem_cons_succ] at q0 q1 q2 q3 q4
              have r0 := yd.cellAt 0 (by simp)
              have r1 := yd.cellAt 1 (by simp)
              have r2 := yd.cellAt 2 (by simp)
              have r3 := yd.cellAt 3 (by simp)
              have r4 := yd.cellAt 4 (by simp)
              simp only [List.getElem_toArray, List.getElem_cons_zero, List.getElem_cons_succ] at r0 r1 r2 r3 r4
              go_wp2_with fail
              refine (specClientText_any xd _ HXD.out.1).mono ?_
              rw [HTX.out]
              rintro e w26 ⟨rfl, b26⟩
              have z26 := b26.size
              replace sa := sa.on b26
              replace ya := ya.on b26
              replace sb := sb.on b26
              replace y1 := y1.on b26
              replace y2 := y2.on b26
              replace yd := yd.on b26
              replace y3 := y3.on b26
              replace y4 := y4.on b26
              replace y5 := y5.on b26
              replace se := se.on b26
              replace sf := sf.on b26
              have H26 := Lib.hid (bnext H25.out b26 (Nat.le_refl _))
              clear b26
              clear p0 p1 p2 p3 p4 q0 q1 q2 q3 q4 r0 r1 r2 r3 r4
              clear y1 y2
              have r0 := yd.cellAt 0 (by simp)
              have r1 := yd.cellAt 1 (by simp)
              have r2 := yd.cellAt 2 (by simp)
              have r3 := yd.cellAt 3 (by simp)
              have r4 := yd.cellAt 4 (by simp)
              simp only [List.getElem_toArray, List.getElem_cons_zero, List.getElem_cons_succ] at r0 r1 r2 r3 r4
              have p0 := y3.cellAt 0 (by simp)
              have p1 := y3.cellAt 1 (by simp)
              have p2 := y3.cellAt 2 (by simp)
              have p3 := y3.cellAt 3 (by simp)
              have p4 := y3.cellAt 4 (by simp)
              simp only [List.getElem_toArray, List.getElem_cons_zero, List.getElem_cons_succ] at p0 p1 p2 p3 p4
              have q0 := y4.cellAt 0 (by simp)
              have q1 := y4.cellAt 1 (by simp)
              have q2 := y4.cellAt 2 (by simp)
              have q3 := y4.cellAt 3 (by simp)
              have q4 := y4.cellAt 4 (by simp)
              simp only [List.getElem_toArray, List.getElem_cons_zero, List.getElem_cons_succ] at q0 q1 q2 q3 q4
              have v0 := y5.cellAt 0 (by simp)
              have v1 := y5.cellAt 1 (by simp)
              have v2 := y5.cellAt 2 (by simp)
              have v3 := y5.cellAt 3 (by simp)
              have v4 := y5.cellAt 4 (by simp)
              simp only [List.getElem_toArray, List.getElem_cons_zero, List.getElem_cons_succ] at v0 v1 v2 v3 v4
              have hte : tx.toList.isEmpty = !okCl xd := by rw [← HTX.out]; exact text_empty xd
              have hrc : (bc, bo) = if okCl xd = true then (xd, true) else (⟨⟨#[]⟩, 0, 0, 0, 0⟩, false) := by rw [← HBK.out, ← HTX.out]; exact rc_text xd
              rcases hok : okCl xd with _ | _
              · rw [hok] at hrc hte
                obtain ⟨rfl, rfl⟩ : bc = ⟨⟨#[]⟩, 0, 0, 0, 0⟩ ∧ bo = false := by simpa using hrc
                clear hrc
                replace hte : tx.toList.isEmpty = true := hte
                go_wp2_with fail
                refine (implSameClients_any _ _ _ le _ _ _ lf _ _ (se.reads (by omega)) (sf.reads (by omega)) (Nat.le_refl _) (by omega) (by omega)).mono ?_
                rintro e w27 ⟨rfl, b27⟩
                have z27 := b27.size
                replace sa := sa.on b27
                replace ya := ya.on b27
                replace sb := sb.on b27
                replace yd := yd.on b27
                replace y3 := y3.on b27
                replace y4 := y4.on b27
                replace y5 := y5.on b27
                replace se := se.on b27
                replace sf := sf.on b27
                have H27 := Lib.hid (bnext H26.out b27 (Nat.le_refl _))
                clear b27
                clear r0 r1 r2 r3 r4 p0 p1 p2 p3 p4 q0 q1 q2 q3 q4 v0 v1 v2 v3 v4
                clear yd y3 y4 y5
                go_wp2_with fail
                refine (specSameClients_any _ _ _ le _ _ _ lf _ _ (se.reads (by omega)) (sf.reads (by omega)) (Nat.le_refl _) (by omega) (by omega)).mono ?_
                rintro e w28 ⟨rfl, b28⟩
                have z28 := b28.size
                replace sa := sa.on b28
                replace ya := ya.on b28
                replace sb := sb.on b28
                replace se := se.on b28
                replace sf := sf.on b28
                have H28 := Lib.hid (bnext H27.out b28 (Nat.le_refl _))
                clear b28
                go_wp2_with fail
                refine (implValidClients_any _ _ _ la _ _ (sa.reads (by omega)) (Nat.le_refl _) (by omega) Ga.out.1 Ga.out.2).mono ?_
                rintro e w29 ⟨rfl, b29⟩
                have z29 := b29.size
                replace sa := sa.on b29
                replace ya := ya.on b29
                replace sb := sb.on b29
                replace se := se.on b29
                replace sf := sf.on b29
                have H29 := Lib.hid (bnext H28.out b29 (Nat.le_refl _))
                clear b29
                go_wp2_with fail
                refine (specValidClients_any _ _ _ la _ _ (sa.reads (by omega)) (Nat.le_refl _) (by omega) Ga.out.1 Ga.out.2).mono ?_
                rintro e w30 ⟨rfl, b30⟩
                have z30 := b30.size
                replace sa := sa.on b30
                replace ya := ya.on b30
                replace sb := sb.on b30
                replace se := se.on b30
                replace sf := sf.on b30
                have H30 := Lib.hid (bnext H29.out b30 (Nat.le_refl _))
                clear b30
                go_wp2_with fail
                go_meet
                exact ⟨rfl, H30.out⟩
              · rw [hok] at hrc hte
                obtain ⟨rfl, rfl⟩ : bc = xd ∧ bo = true := by simpa using hrc
                clear hrc
                replace hte : tx.toList.isEmpty = false := hte
                go_wp2_with fail
                refine (implSameClients_any _ _ _ le _ _ _ lf _ _ (se.reads (by omega)) (sf.reads (by omega)) (Nat.le_refl _) (by omega) (by omega)).mono ?_
                rintro e w27 ⟨rfl, b27⟩
                have z27 := b27.size
                replace sa := sa.on b27
                replace ya := ya.on b27
                replace sb := sb.on b27
                replace yd := yd.on b27
                replace y3 := y3.on b27
                replace y4 := y4.on b27
                replace y5 := y5.on b27
                replace se := se.on b27
                replace sf := sf.on b27
                have H27 := Lib.hid (bnext H26.out b27 (Nat.le_refl _))
                clear b27
                clear r0 r1 r2 r3 r4 p0 p1 p2 p3 p4 q0 q1 q2 q3 q4 v0 v1 v2 v3 v4
                clear yd y3 y4 y5
                go_wp2_with fail
                refine (specSameClients_any _ _ _ le _ _ _ lf _ _ (se.reads (by omega)) (sf.reads (by omega)) (Nat.le_refl _) (by omega) (by omega)).mono ?_
                rintro e w28 ⟨rfl, b28⟩
                have z28 := b28.size
                replace sa := sa.on b28
                replace ya := ya.on b28
                replace sb := sb.on b28
                replace se := se.on b28
                replace sf := sf.on b28
                have H28 := Lib.hid (bnext H27.out b28 (Nat.le_refl _))
                clear b28
                go_wp2_with fail
                refine (implValidClients_any _ _ _ la _ _ (sa.reads (by omega)) (Nat.le_refl _) (by omega) Ga.out.1 Ga.out.2).mono ?_
                rintro e w29 ⟨rfl, b29⟩
                have z29 := b29.size
                replace sa := sa.on b29
                replace ya := ya.on b29
                replace sb := sb.on b29
                replace se := se.on b29
                replace sf := sf.on b29
                have H29 := Lib.hid (bnext H28.out b29 (Nat.le_refl _))
                clear b29
                go_wp2_with fail
                refine (specValidClients_any _ _ _ la _ _ (sa.reads (by omega)) (Nat.le_refl _) (by omega) Ga.out.1 Ga.out.2).mono ?_
                rintro e w30 ⟨rfl, b30⟩
                have z30 := b30.size
                replace sa := sa.on b30
                replace ya := ya.on b30
                replace sb := sb.on b30
                replace se := se.on b30
                replace sf := sf.on b30
                have H30 := Lib.hid (bnext H29.out b30 (Nat.le_refl _))
                clear b30
                go_wp2_with fail
                go_meet
                exact ⟨rfl, H30.out⟩
            case rest => as_aux_lemma =>
              obtain ⟨rfl, bcut⟩ := hcut
              have zc := bcut.size
              clear y1 y2 yd y3 y4 y5 se sf
              replace sa := sa.on bcut
              replace ya := ya.on bcut
              replace s1 := s1.on bcut
              replace s2 := s2.on bcut
              replace sb := sb.on bcut
              replace s3 := s3.on bcut
              replace s4 := s4.on bcut
              have HC := Lib.hid (bnext H23.out bcut (Nat.le_refl _))
              clear bcut
              go_upto_if 202 with fail
              go_cut [] (fun wx => Below wc.heap.size wc wx)
              case first => as_aux_lemma =>
                rcases hq : ((extF lb nb db2).2 == 0) with _ | _
                · go_wp2_with fail
                  go_meet
                  exact Below.refl _ _
                · skip
                  obtain ⟨x6, x7, hc6, hc7, hto, hbd, hok6, hok7⟩ := ext_zero (beq_iff_eq.1 hq)
                  have HOK7 := Lib.hid hok7
                  have HOK6 := Lib.hid hok6
                  have HC7 := Lib.hid hc7
                  have HC6 := Lib.hid hc6
                  have HTO := Lib.hid hto
                  clear hok7 hok6 hc7 hc6 hto
                  have hwt : IntKind.i64.wrap (x6.to_ + db2) = x6.to_ + db2 := by rw [IntKind.wrap_i64]; omega
                  go_wp2_with fail
                  refine (specClientOf_any _ _ _ lb nb _ _ (sb.reads (by omega)) (Nat.le_refl _) (by omega) Gb.out.1 Gb.out.2 hnb).mono ?_
                  rw [HC6.out]
                  rintro e w64 ⟨rfl, b64⟩
                  have z64 := b64.size
                  replace sa := sa.on b64
                  replace ya := ya.on b64
                  replace s1 := s1.on b64
                  replace s2 := s2.on b64
                  replace sb := sb.on b64
                  replace s3 := s3.on b64
                  replace s4 := s4.on b64
                  have H64 := Lib.hid (bnext (Below.refl wc.heap.size wc) b64 (Nat.le_refl _))
                  clear b64
                  obtain ⟨w65, hw65⟩ : ∃ y, w64.alloc (.cells #[.string x6.name, .int .i64 x6.station, .int .i64 x6.from_, .int .i64 x6.to_, .int .i64 x6.quota] 48) = y := ⟨_, rfl⟩
                  have b65 : Below w64.heap.size w64 w65 := by rw [← hw65]; exact (Below.refl _ _).alloc (Nat.le_refl _) _
                  have y6 : Blk w65 w64.heap.size 48 #[.string x6.name, .int .i64 x6.station, .int .i64 x6.from_, .int .i64 x6.to_, .int .i64 x6.quota] := by rw [← hw65]; exact Blk.new _ _ _
                  have z65 : w64.heap.size < w65.heap.size := by rw [← hw65]; simp
                  replace sa := sa.on b65
                  replace ya := ya.on b65
                  replace s1 := s1.on b65
                  replace s2 := s2.on b65
                  replace sb := sb.on b65
                  replace s3 := s3.on b65
                  replace s4 := s4.on b65
                  have H65 := Lib.hid (bnext H64.out b65 (Nat.le_refl _))
                  clear b65
                  go_wp2_with fail
                  refine (implClientOf_any _ _ _ (extF lb nb db2).1 nb _ _ (s3.reads (by omega)) (Nat.le_refl _) hm3 (okCls_all HOK7.out).1 (okCls_all HOK7.out).2 hnb).mono ?_
                  rw [HC7.out]
                  rintro e w66 ⟨rfl, b66⟩
                  have z66 := b66.size
                  replace sa := sa.on b66
                  replace ya := ya.on b66
                  replace s1 := s1.on b66
                  replace s2 := s2.on b66
                  replace sb := sb.on b66
                  replace s3 := s3.on b66
                  replace s4 := s4.on b66
                  replace y6 := y6.on b66
                  have H66 := Lib.hid (bnext H65.out b66 (Nat.le_refl _))
                  clear b66
                  clear hw65
                  obtain ⟨w67, hw67⟩ : ∃ y, w66.alloc (.cells #[.string x7.name, .int .i64 x7.station, .int .i64 x7.from_, .int .i64 x7.to_, .int .i64 x7.quota] 48) = y := ⟨_, rfl⟩
                  have b67 : Below w66.heap.size w66 w67 := by rw [← hw67]; exact (Below.refl _ _).alloc (Nat.le_refl _) _
                  have y7 : Blk w67 w66.heap.size 48 #[.string x7.name, .int .i64 x7.station, .int .i64 x7.from_, .int .i64 x7.to_, .int .i64 x7.quota] := by rw [← hw67]; exact Blk.new _ _ _
                  have z67 : w66.heap.size < w67.heap.size := by rw [← hw67]; simp
                  replace sa := sa.on b67
                  replace ya := ya.on b67
                  replace s1 := s1.on b67
                  replace s2 := s2.on b67
                  replace sb := sb.on b67
                  replace s3 := s3.on b67
                  replace s4 := s4.on b67
                  replace y6 := y6.on b67
                  have H67 := Lib.hid (bnext H66.out b67 (Nat.le_refl _))
                  clear b67
                  have p0 := y6.cellAt 0 (by simp)
                  have p1 := y6.cellAt 1 (by simp)
                  have p2 := y6.cellAt 2 (by simp)
                  have p3 := y6.cellAt 3 (by simp)
                  have p4 := y6.cellAt 4 (by simp)
                  simp only [List.getElem_toArray, List.getElem_cons_zero, List.getElem_cons_succ] at p0 p1 p2 p3 p4
                  have q0 := y7.cellAt 0 (by simp)
                  have q1 := y7.cellAt 1 (by simp)
                  have q2 := y7.cellAt 2 (by simp)
                  have q3 := y7.cellAt 3 (by simp)
                  have q4 := y7.cellAt 4 (by simp)
                  simp only [List.getElem_toArray, List.getElem_cons_zero, List.getElem_cons_succ] at q0 q1 q2 q3 q4
                  rw [HTO.out] at q3
                  go_wp2_with fail
                  refine (implValidClients_any _ _ _ (extF lb nb db2).1 _ _ (s3.reads (by omega)) (Nat.le_refl _) hm3 (okCls_all HOK7.out).1 (okCls_all HOK7.out).2).mono ?_
                  rw [HOK7.out]
                  rintro e w68 ⟨rfl, b68⟩
                  have z68 := b68.size
                  replace sa := sa.on b68
                  replace ya := ya.on b68
                  replace s1 := s1.on b68
                  replace s2 := s2.on b68
                  replace sb := sb.on b68
                  replace s3 := s3.on b68
                  replace s4 := s4.on b68
                  replace y6 := y6.on b68
                  replace y7 := y7.on b68
                  have H68 := Lib.hid (bnext H67.out b68 (Nat.le_refl _))
                  clear b68
                  go_wp2_with fail
                  go_meet
                  exact H68.out
              case rest => as_aux_lemma =>
                clear sb s3 s4
                have HD := Lib.hid (bnext HC.out hcut (Nat.le_refl _))
                have zd := hcut.size
                replace sa := sa.on hcut
                replace ya := ya.on hcut
                replace s1 := s1.on hcut
                replace s2 := s2.on hcut
                clear hcut
                rcases hq : ((addF la xa).2 == 0) with _ | _
                · have hq2 : ((addF la xa).2 != 0) = true := by simp [bne, hq]
                  go_wp2
                  go_ret
                  exact ⟨rfl, HD.out⟩
                · have hq2 : ((addF la xa).2 != 0) = false := by simp [bne, hq]
                  obtain ⟨hokx, hokl, hlen, hcx, hto, hact, hhas⟩ := add_zero (beq_iff_eq.1 hq)
                  obtain ⟨ha1, ha2, ha3, ha4⟩ := active_last hokx
                  have HL := Lib.hid hokl
                  have HCX := Lib.hid hcx
                  have HA1 := Lib.hid ((hact (xa.to_ - 1)).trans (if_pos ha3))
                  have HA2 := Lib.hid ((hact xa.to_).trans (if_pos ha4))
                  have HH1 := Lib.hid ((hhas (xa.to_ - 1)).trans ha1)
                  have HH2 := Lib.hid ((hhas xa.to_).trans ha2)
                  have hxs := (okCl_good hokx).2
                  unfold Cl.small at hxs
                  obtain rfl : m1 = la.length + 1 := by rw [HM1.out, hlen]
                  have hwl : IntKind.i64.wrap ((la.length : Int) + 1) = (la.length : Int) + 1 := by have := hla.1; rw [IntKind.wrap_i64]; omega
                  have hwt : IntKind.i64.wrap (xa.to_ - 1) = xa.to_ - 1 := by rw [IntKind.wrap_i64]; omega
                  clear hokx hokl hlen hcx hact hhas ha1 ha2 ha3 ha4 hq
                  have k0 := ya.cellAt 0 (by simp)
                  have k1 := ya.cellAt 1 (by simp)
                  have k2 := ya.cellAt 2 (by simp)
                  have k3 := ya.cellAt 3 (by simp)
                  have k4 := ya.cellAt 4 (by simp)
                  simp only [List.getElem_toArray, List.getElem_cons_zero, List.getElem_cons_succ] at k0 k1 k2 k3 k4
                  go_wp2_with fail
                  refine (implClientOf_any _ _ _ (addF la xa).1 xa.name _ _ (s1.reads (by omega)) (Nat.le_refl _) (by omega) (okCls_all HL.out).1 (okCls_all HL.out).2 hxs).mono ?_
                  rw [HCX.out]
                  rintro e w104 ⟨rfl, b104⟩
                  have z104 := b104.size
                  replace sa := sa.on b104
                  replace ya := ya.on b104
                  replace s1 := s1.on b104
                  replace s2 := s2.on b104
                  have H104 := Lib.hid (bnext HD.out b104 (Nat.le_refl _))
                  clear b104
                  clear k0 k1 k2 k3 k4
                  obtain ⟨w105, hw105⟩ : ∃ y, w104.alloc (.cells #[.string xa.name, .int .i64 xa.station, .int .i64 xa.from_, .int .i64 xa.to_, .int .i64 xa.quota] 48) = y := ⟨_, rfl⟩
                  have b105 : Below w104.heap.size w104 w105 := by rw [← hw105]; exact (Below.refl _ _).alloc (Nat.le_refl _) _
                  have y8 : Blk w105 w104.heap.size 48 #[.string xa.name, .int .i64 xa.station, .int .i64 xa.from_, .int .i64 xa.to_, .int .i64 xa.quota] := by rw [← hw105]; exact Blk.new _ _ _
                  have z105 : w104.heap.size < w105.heap.size := by rw [← hw105]; simp
                  replace sa := sa.on b105
                  replace ya := ya.on b105
                  replace s1 := s1.on b105
                  replace s2 := s2.on b105
                  have H105 := Lib.hid (bnext H104.out b105 (Nat.le_refl _))
                  clear b105
                  have k0 := ya.cellAt 0 (by simp)
                  have k1 := ya.cellAt 1 (by simp)
                  have k2 := ya.cellAt 2 (by simp)
                  have k3 := ya.cellAt 3 (by simp)
                  have k4 := ya.cellAt 4 (by simp)
                  simp only [List.getElem_toArray, List.getElem_cons_zero, List.getElem_cons_succ] at k0 k1 k2 k3 k4
                  go_wp2_with fail
                  refine (implActiveOn_any _ _ _ (addF la xa).1 (xa.to_ - 1) _ _ (s1.reads (by omega)) (Nat.le_refl _) (by omega) (okCls_all HL.out).1 (okCls_all HL.out).2 ⟨by omega, by omega⟩).mono ?_
                  rw [HA1.out]
                  rintro e w106 ⟨A7, m7, d7, rfl, s7, b106⟩
                  have z106 := b106.size
                  replace sa := sa.on b106
                  replace ya := ya.on b106
                  replace s1 := s1.on b106
                  replace s2 := s2.on b106
                  replace y8 := y8.on b106
                  have H106 := Lib.hid (bnext H105.out b106 (Nat.le_refl _))
                  clear b106
                  clear hw105
                  clear k0 k1 k2 k3 k4
                  have k0 := ya.cellAt 0 (by simp)
                  have k1 := ya.cellAt 1 (by simp)
                  have k2 := ya.cellAt 2 (by simp)
                  have k3 := ya.cellAt 3 (by simp)
                  have k4 := ya.cellAt 4 (by simp)
                  simp only [List.getElem_toArray, List.getElem_cons_zero, List.getElem_cons_succ] at k0 k1 k2 k3 k4
                  go_wp2_with fail
                  refine (implActiveOn_any _ _ _ (addF la xa).1 xa.to_ _ _ (s1.reads (by omega)) (Nat.le_refl _) (by omega) (okCls_all HL.out).1 (okCls_all HL.out).2 ⟨by omega, by omega⟩).mono ?_
                  rw [HA2.out]
                  rintro e w107 ⟨A8, m8, d8, rfl, s8, b107⟩
                  have z107 := b107.size
                  replace sa := sa.on b107
                  replace ya := ya.on b107
                  replace s1 := s1.on b107
                  replace s2 := s2.on b107
                  replace y8 := y8.on b107
                  replace s7 := s7.on b107
                  have H107 := Lib.hid (bnext H106.out b107 (Nat.le_refl _))
                  clear b107
                  clear k0 k1 k2 k3 k4
                  have k0 := ya.cellAt 0 (by simp)
                  have k1 := ya.cellAt 1 (by simp)
                  have k2 := ya.cellAt 2 (by simp)
                  have k3 := ya.cellAt 3 (by simp)
                  have k4 := ya.cellAt 4 (by simp)
                  simp only [List.getElem_toArray, List.getElem_cons_zero, List.getElem_cons_succ] at k0 k1 k2 k3 k4
                  have q0 := y8.cellAt 0 (by simp)
                  have q1 := y8.cellAt 1 (by simp)
                  have q2 := y8.cellAt 2 (by simp)
                  have q3 := y8.cellAt 3 (by simp)
                  have q4 := y8.cellAt 4 (by simp)
                  simp only [List.getElem_toArray, List.getElem_cons_zero, List.getElem_cons_succ] at q0 q1 q2 q3 q4
                  have hm7 : m7 ≤ 1048576 := by have h1 := s7.len; have h2 := namesTo_len (fun y => active y (xa.to_ - 1)) (addF la xa).1 (addF la xa).1.length; have h3 := addF_len la xa; simp [strs] at h1; omega
                  have hm8 : m8 ≤ 1048576 := by have h1 := s8.len; have h2 := namesTo_len (fun y => active y xa.to_) (addF la xa).1 (addF la xa).1.length; have h3 := addF_len la xa; simp [strs] at h1; omega
                  have R7 := s7.reads (B := w107.heap.size) (by omega)
                  have R8 := s8.reads (B := w107.heap.size) (by omega)
                  clear s7 s8 s1 s2 sa ya y8
                  go_wp2_with fail
                  refine (f6word_any _ _ _ _ _ _ _ R7 hm7).mono ?_
                  rw [HH1.out]
                  rintro e w' ⟨rfl, rfl⟩
                  go_wp2_with fail
                  refine (f6word_any _ _ _ _ _ _ _ R8 hm8).mono ?_
                  rw [HH2.out]
                  rintro e w' ⟨rfl, rfl⟩
                  go_wp2
                  go_ret
                  exact ⟨rfl, H107.out⟩

end Go.Proofs.YtjmlcobbjpmjpaaGreatDoor.lawClients
