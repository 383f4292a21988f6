/- The marks of a desk: runs, net, desk. -/
import Derived.Test.YtgcepomehgedfaaDoorMkD
set_option linter.unusedVariables false
set_option linter.unusedSimpArgs false
namespace Go.Proofs.YtgcepomehgedfaaDoor
open Go.RowKit

theorem Blk.off {w w' : World} {g : Nat} {t : TypeId} {cs : Array Value} {S : Nat → Prop} (h : Blk w g t cs) (ho : Off S w w') (hs : ¬ S g) : Blk w' g t cs := (ho.block g h.lt hs).trans h
theorem Reads.off {w w' : World} {lo hi size n c : Nat} {t : TypeId} {A : Option Addr} {xs : List Value} {S : Nat → Prop} (h : Sl w lo hi t size A n c xs) (ho : Off S w w') (hs : ∀ b, inB A b → ¬ S b) {B : Nat} (hB : hi ≤ B) : Reads w' B size A n xs := (h.off ho hs).reads hB
theorem wlen_small {rs : List Rn} (h : SmallR rs) (i : Nat) : wlen rs i ≤ 1048576 := by
  unfold wlen
  cases e : rs[i]? with
  | none => simp
  | some r => simpa using h i r e
theorem map_A_set {l : List RnH} {i : Nat} {x : RnH} {v : Int} (h : l[i]? = some x) (t : Nat) : ((l.set i ⟨x.A, x.m, x.c, v⟩)[t]?).map (·.A) = (l[t]?).map (·.A) := by
  by_cases e : i = t
  · subst e
    rw [List.getElem?_set_self (List.getElem?_eq_some_iff.1 h).1, h]; rfl
  · rw [List.getElem?_set_ne e]
theorem inRn_same {A : Option Addr} {rh rh' : List RnH} (h : ∀ t : Nat, (rh'[t]?).map (·.A) = (rh[t]?).map (·.A)) {b : Nat} (hb : inRn A rh' b) : inRn A rh b := by
  rcases hb with hb | ⟨i, x, hx, hb⟩
  · exact .inl hb
  · have := h i
    rw [hx] at this
    cases e : rh[i]? with
    | none => rw [e] at this; cases this
    | some y =>
      rw [e] at this
      simp only [Option.map_some, Option.some.injEq] at this
      exact .inr ⟨i, y, e, by rw [← this]; exact hb⟩

set_option maxHeartbeats 1000000 in
theorem markRn_k (A : Option Addr) (n c lo hi : Nat) (k0 : Int) (rs : List Rn) (rh : List RnH) (w : World) (h : OwnR w lo hi A n c rs rh) (hn : n ≤ 1048576) (hsm : SmallR rs) (hk0 : 0 ≤ k0) (hk1 : k0 ≤ 100000000) :
    Calls Tryd.prog 16 #[.slice A n c, .int .i64 k0] w fun e w' => e = .returned (.int .i64 (kR k0 rs n)) ∧ RunsR w' hi A n (markR k0 rs) ∧ Off (inRn A rh) w w' := by
  have HN := Lib.hid h.len
  have HSM := Lib.hid hsm
  go_enter Tryd.func16, Tryd.ntmps16
  go_wp2
  go_loopw [1, 5] (fun q i wr => ∃ (j : Nat) (rs' : List Rn) (rh' : List RnH), j ≤ n ∧ i = .int .i64 j ∧ q = .int .i64 (kR k0 rs j) ∧ OwnR wr lo hi A n c rs' rh' ∧ (∀ t : Nat, t < j → rs'[t]? = (markR k0 rs)[t]?) ∧ (∀ t : Nat, j ≤ t → rs'[t]? = rs[t]?) ∧ (∀ t : Nat, (rh'[t]?).map (·.A) = (rh[t]?).map (·.A)) ∧ Off (inRn A rh) w wr) (fun _ i _ => n - (intOf i).toNat)
  case atStart => exact ⟨0, rs, rh, Nat.zero_le _, rfl, rfl, h, fun t ht => by omega, fun t _ => rfl, fun t => rfl, Off.refl _ _⟩
  case round =>
    obtain ⟨j, rs', rh', hj, rfl, rfl, hown, hdone, hleft, hsame, hoff⟩ := hrel
    have HO := Lib.hid hown
    have HD := Lib.hid hdone
    have HL := Lib.hid hleft
    have HS := Lib.hid hsame
    have HF := Lib.hid hoff
    clear hown hdone hleft hsame hoff h hsm
    by_cases hlt : j < n
    · obtain ⟨g, rfl, hg1, hg2, hg3⟩ := HO.out.row.lt (by omega)
      have hx : rh'[j]? = some (rh'[j]'(by have := HO.out.hlen; omega)) := List.getElem?_eq_getElem _
      obtain ⟨x, hxe⟩ : ∃ x, rh'[j]'(by have := HO.out.hlen; omega) = x := ⟨_, rfl⟩
      rw [hxe] at hx
      obtain ⟨r, hr⟩ := HO.out.get hx
      have hr0 : rs[j]? = some r := by rw [← HL.out j (Nat.le_refl _)]; exact hr
      obtain ⟨hst, hm, hsl⟩ := HO.out.at_ j x r hx hr
      have hxm : r.way.length = x.m := by have := hsl.len; rw [ints_length] at this; omega
      have hwl : wlen rs j = x.m := by rw [wlen_at hr0, hxm]
      have hxs : x.m ≤ 1048576 := by rw [← hxm]; exact HSM.out j r hr0
      have hkb := kR_bd (k := k0) (fun i => wlen_small HSM.out i) j
      have HX := Lib.hid hx
      have HR := Lib.hid hr
      have HR0 := Lib.hid hr0
      have HSL := Lib.hid hsl
      have HWL := Lib.hid hwl
      obtain ⟨e0, e1⟩ := rns_get hx
      have c0 := (HO.out.row.cellAt (j * 2) (by omega)).trans e0
      have hkn : kR k0 rs (j + 1) = kR k0 rs j + (x.m : Int) + 1 := by rw [kR, hwl]
      have HKN := Lib.hid hkn
      obtain ⟨kj, hkj⟩ : ∃ q, kR k0 rs j = q := ⟨_, rfl⟩
      have HKJ := Lib.hid hkj
      rw [hkj] at hkb ⊢
      have hj0 : (0 : Int) ≤ j := by omega
      have hjn : (j : Int) < n := by omega
      have hkj1 : 0 ≤ kj := by omega
      have hkj2 : kj ≤ 4000000000000 := by omega
      clear hx hr hr0 hst hsl hxm hwl e0 e1 hkn hkj hxe
      go_wp2_with fail
      refine (markI64_k x.A x.m x.c lo hi kj _ _ HSL.out hxs hkj1 hkj2).mono ?_
      rintro e w2 ⟨rfl, hsl2, hof2⟩
      have HO2 := Lib.hid (HO.out.setWay HX.out HR.out hof2 hsl2)
      have HF2 := Lib.hid (HF.out.trans (hof2.mono fun b hb => inRn_same HS.out (.inr ⟨j, x, HX.out, hb⟩)))
      obtain ⟨e0, e1⟩ := rns_get HX.out
      have c1 := (HO2.out.row.cellAt (j * 2 + 1) (by omega)).trans e1
      have f1 := HO2.out.row.frozenAt (j * 2 + 1)
      clear hsl2 hof2 c0 e0 e1
      go_wp2
      go_roundw
      case rel =>
        have hil := (List.getElem?_eq_some_iff.1 HR.out).1
        have hset : (rs'.set j ⟨marksK kj x.m, r.st⟩)[j]? = some ⟨marksK kj x.m, r.st⟩ := List.getElem?_set_self hil
        have hown3 := HO2.out.setStart HX.out hset (kj + (x.m : Int))
        refine ⟨j + 1, _, _, by omega, by go_num, by rw [HKN.out, HKJ.out], hown3, fun t ht => ?_, fun t ht => ?_, fun t => (map_A_set HX.out t).trans (HS.out t), HF2.out.setCell (p := ⟨g, j * 2 + 1, none⟩) (.inl (inB_self g 0)) _⟩
        · rw [List.set_set]
          by_cases e : j = t
          · subst e
            rw [List.getElem?_set_self hil, markR_get (by have := HN.out; omega), HWL.out, HKJ.out]
          · rw [List.getElem?_set_ne e]; exact HD.out t (by omega)
        · rw [List.set_set, List.getElem?_set_ne (by omega)]; exact HL.out t (by omega)
      case measure => simp [intOf]; omega
    · obtain rfl : j = n := by omega
      have e : rs' = markR k0 rs := by
        apply List.ext_getElem?
        intro t
        by_cases ht : t < j
        · exact HD.out t ht
        · rw [HL.out t (by omega), List.getElem?_eq_none (by have := HN.out; omega), List.getElem?_eq_none (by rw [markR_length]; have := HN.out; omega)]
      go_wp2
      go_ret
      exact ⟨rfl, by rw [← e]; exact HO.out.reads (Nat.le_refl _), HF.out⟩
set_option maxHeartbeats 1000000 in
theorem heldRn_k (A : Option Addr) (n c B : Nat) (k0 : Int) (rs : List Rn) (w : World) (h : RunsR w B A n (markR k0 rs)) (hB : B ≤ w.heap.size) (hl : rs.length = n) (hn : n ≤ 1048576) (hsm : SmallR rs) (hk0 : 0 ≤ k0) (hk1 : k0 ≤ 100000000) :
    Calls Tryd.prog 19 #[.slice A n c, .int .i64 k0] w fun e w' => e = .returned (.int .i64 (kR k0 rs n)) ∧ Below w.heap.size w w' := by
  have HSM := Lib.hid hsm
  have HN := Lib.hid hl
  clear hsm hl
  go_enter Tryd.func19, Tryd.ntmps19
  go_wp2
  go_loopw [1, 5] (fun q i wr => ∃ (j : Nat), j ≤ n ∧ i = .int .i64 j ∧ q = .int .i64 (kR k0 rs j) ∧ Below w.heap.size w wr) (fun _ i _ => n - (intOf i).toNat)
  case atStart => exact ⟨0, Nat.zero_le _, rfl, rfl, Below.refl _ _⟩
  case round =>
    obtain ⟨j, hj, rfl, rfl, hbel⟩ := hrel
    have HB := Lib.hid hbel
    by_cases hlt : j < n
    · obtain ⟨r, b, off, A', m', c', he, rfl, hb, c0, c1, hr, hm'⟩ := run_at (h.on hB hbel) hlt
      have hr2 : r = ⟨marksK (kR k0 rs j) (wlen rs j), kR k0 rs j + (wlen rs j : Int)⟩ := by
        rw [markR_get (by have := HN.out; omega)] at he; injection he with he; exact he.symm
      subst hr2
      have hlen := ints_len hr
      rw [marksK_length] at hlen
      have hxs : m' ≤ 1048576 := by rw [← hlen]; exact wlen_small HSM.out j
      have hkb := kR_bd (k := k0) (fun i => wlen_small HSM.out i) j
      have HKN := Lib.hid (show kR k0 rs (j + 1) = kR k0 rs j + (m' : Int) + 1 by rw [kR, hlen])
      rw [hlen] at hr
      simp only at c1
      rw [hlen] at c1
      obtain ⟨kj, hkj⟩ : ∃ q, kR k0 rs j = q := ⟨_, rfl⟩
      have HKJ := Lib.hid hkj
      rw [hkj] at hkb hr c1 ⊢
      have HR := Lib.hid hr
      have hj0 : (0 : Int) ≤ j := by omega
      have hjn : (j : Int) < n := by omega
      have hkj1 : 0 ≤ kj := by omega
      have hkj2 : kj ≤ 4000000000000 := by omega
      clear he hlen hr hkj h hbel
      go_wp2_with fail
      refine (heldI64_k A' m' c' B kj _ HR.out hxs hkj1 hkj2).mono ?_
      rintro e w2 ⟨rfl, b2⟩
      have HF := Lib.hid (bnext HB.out b2 (Nat.le_refl _))
      replace c1 := cell_on b2 c1
      have hg : decide (kj + (m' : Int) < 0) = false := decide_eq_false (by omega)
      clear b2 c0
      go_wp2
      go_roundw
      case rel => exact ⟨j + 1, by omega, by go_num, by rw [HKN.out, HKJ.out], HF.out⟩
      case measure => simp [intOf]; omega
    · obtain rfl : j = n := by omega
      go_wp2
      go_ret
      exact ⟨rfl, hbel⟩
theorem markNet_k (A : Option Addr) (n c lo hi : Nat) (st k0 : Int) (xs : List Value) (w : World) (h : Sl w lo hi 42 3 A n c xs) (hn : n ≤ 1048576) (hk0 : 0 ≤ k0) (hk1 : k0 ≤ 4000000000000) :
    Calls Tryd.prog 14 #[.agg #[.int .i64 st, .slice A n c], .int .i64 k0] w fun e w' => e = .returned (.int .i64 (k0 + 3 * (n : Int))) ∧ Sl w' lo hi 42 3 A n c (tbs (marksT k0 n)) ∧ Off (inB A) w w' := by
  obtain ⟨W, hW, y0, hb⟩ : ∃ W, W = w.alloc (.cells #[.int .i64 st, .slice A n c] 24) ∧ Blk W w.heap.size 24 #[.int .i64 st, .slice A n c] ∧ Below w.heap.size w W := ⟨_, rfl, Blk.new _ _ _, (Below.refl _ _).alloc (Nat.le_refl _) _⟩
  have HW := Lib.hid hW
  have HB := Lib.hid hb
  have HS := Lib.hid (h.on hb)
  have c1 := y0.cellAt 1 (by simp)
  simp only [List.getElem_toArray, List.getElem_cons_zero, List.getElem_cons_succ] at c1
  clear hW hb y0 h
  go_enter Tryd.func14, Tryd.ntmps14
  go_upto_region 1 with fail
  rw [← HW.out]
  go_wp2_with fail
  refine (markTb_k A n c lo hi k0 _ _ HS.out hn hk0 hk1).mono ?_
  rintro e w1 ⟨rfl, s1, o1⟩
  have H1 := Lib.hid s1
  have HO := Lib.hid ((Off.of_below HB.out (inB A)).trans o1)
  clear s1 o1 c1
  go_wp2
  go_ret
  exact ⟨rfl, H1.out, HO.out⟩
theorem heldNet_k (A : Option Addr) (n c B : Nat) (st k0 : Int) (w : World) (h : Reads w B 3 A n (tbs (marksT k0 n))) (hB : B ≤ w.heap.size) (hn : n ≤ 1048576) (hk0 : 0 ≤ k0) (hk1 : k0 ≤ 4000000000000) :
    Calls Tryd.prog 17 #[.agg #[.int .i64 st, .slice A n c], .int .i64 k0] w fun e w' => e = .returned (.int .i64 (k0 + 3 * (n : Int))) ∧ Below w.heap.size w w' := by
  obtain ⟨W, hW, y0, hb⟩ : ∃ W, W = w.alloc (.cells #[.int .i64 st, .slice A n c] 24) ∧ Blk W w.heap.size 24 #[.int .i64 st, .slice A n c] ∧ Below w.heap.size w W := ⟨_, rfl, Blk.new _ _ _, (Below.refl _ _).alloc (Nat.le_refl _) _⟩
  have HW := Lib.hid hW
  have HB := Lib.hid hb
  have HS := Lib.hid (h.on hB hb)
  have c1 := y0.cellAt 1 (by simp)
  simp only [List.getElem_toArray, List.getElem_cons_zero, List.getElem_cons_succ] at c1
  clear hW hb y0 h
  go_enter Tryd.func17, Tryd.ntmps17
  go_upto_region 1 with fail
  rw [← HW.out]
  go_wp2_with fail
  refine (heldTb_k A n c B k0 _ HS.out hn hk0 hk1).mono ?_
  rintro e w1 ⟨rfl, b1⟩
  have H1 := Lib.hid (bnext HB.out b1 (Nat.le_refl _))
  have hg : decide (k0 + 3 * (n : Int) < 0) = false := decide_eq_false (by omega)
  clear b1 c1
  go_wp2
  go_ret
  exact ⟨rfl, H1.out⟩
theorem k_bds {h : DkH} {d : Dk} {k0 : Int} (h1 : d.net.tubes.length = h.n1) (h2 : d.times.length = h.n2) (hs : DkS h d) (hk0 : 0 ≤ k0) (hk1 : k0 ≤ 10000000) : k1D k0 d = k0 + 3 * (h.n1 : Int) ∧ 0 ≤ k1D k0 d ∧ k1D k0 d ≤ 20000000 ∧ k2D k0 d = k1D k0 d + (h.n2 : Int) ∧ 0 ≤ k2D k0 d ∧ k2D k0 d ≤ 40000000 := by
  have := hs.n1
  have := hs.n2
  unfold k2D k1D
  rw [h1, h2]
  omega
set_option maxHeartbeats 1000000 in
theorem markDesk_k (h : DkH) (d : Dk) (rh : List RnH) (lo hi : Nat) (k0 : Int) (w : World) (hw : OwnD w lo hi h d rh) (hs : DkS h d) (hk0 : 0 ≤ k0) (hk1 : k0 ≤ 10000000) :
    Calls Tryd.prog 7 #[.agg #[.int .i64 d.net.sta, .slice h.A1 h.n1 h.c1, .slice h.A2 h.n2 h.c2, .slice h.A3 h.n3 h.c3, .string d.log], .int .i64 k0] w fun e w' => e = .returned (.int .i64 (k3D k0 d)) ∧ DkR w' hi h (markD k0 d) ∧ Off (inD h rh) w w' := by
  have ht1 : d.net.tubes.length = h.n1 := by have := hw.tubes.len; rw [tbs_length] at this; omega
  have ht2 : d.times.length = h.n2 := by have := hw.times.len; rw [ints_length] at this; omega
  have ht3 := hw.runs.len
  obtain ⟨e1, q1, q2, e2, q3, q4⟩ := k_bds ht1 ht2 hs hk0 hk1
  have HT1 := Lib.hid ht1
  have HT2 := Lib.hid ht2
  have HT3 := Lib.hid ht3
  have hn1 := hs.n1
  have hn2 := hs.n2
  have hn3 := hs.n3
  have HSR := Lib.hid hs.runs
  obtain ⟨W, hW, y0, hb⟩ : ∃ W, W = w.alloc (.cells #[.int .i64 d.net.sta, .slice h.A1 h.n1 h.c1, .slice h.A2 h.n2 h.c2, .slice h.A3 h.n3 h.c3, .string d.log] 28) ∧ Blk W w.heap.size 28 #[.int .i64 d.net.sta, .slice h.A1 h.n1 h.c1, .slice h.A2 h.n2 h.c2, .slice h.A3 h.n3 h.c3, .string d.log] ∧ Below w.heap.size w W := ⟨_, rfl, Blk.new _ _ _, (Below.refl _ _).alloc (Nat.le_refl _) _⟩
  have HW := Lib.hid hW
  have HB := Lib.hid hb
  have y0' := Lib.hid y0
  have HO := Lib.hid (hw.on hb)
  have hbox : ∀ b, inD h rh b → b < w.heap.size := fun b hb => (hw.low.inD_lt hb).2
  have HX := Lib.hid hbox
  have c0 := y0.cellAt 0 (by simp)
  have c1 := y0.cellAt 1 (by simp)
  simp only [List.getElem_toArray, List.getElem_cons_zero, List.getElem_cons_succ] at c0 c1
  have E1 := Lib.hid e1
  have E2 := Lib.hid e2
  obtain ⟨k1, hk1'⟩ : ∃ q, k1D k0 d = q := ⟨_, rfl⟩
  obtain ⟨k2, hk2'⟩ : ∃ q, k2D k0 d = q := ⟨_, rfl⟩
  rw [hk1'] at q1 q2 E1 E2
  rw [hk2'] at q3 q4 E2
  have K1 := Lib.hid hk1'
  have K2 := Lib.hid hk2'
  clear hW hb y0 hw hs e1 e2 hbox ht1 ht2 ht3 hk1' hk2'
  go_enter Tryd.func7, Tryd.ntmps7
  go_upto_region 1 with fail
  rw [← HW.out]
  go_wp2_with fail
  refine (markNet_k h.A1 h.n1 h.c1 lo hi d.net.sta k0 _ _ HO.out.tubes hn1 hk0 (by omega)).mono ?_
  rintro e w1 ⟨rfl, s1, o1⟩
  rw [← E1.out]
  have S1 := Lib.hid s1
  have T1 := Lib.hid (HO.out.times.off o1 fun b hb hb' => HO.out.n12 b hb' hb)
  have R1 := Lib.hid (HO.out.runs.off o1 fun b hb hb' => HO.out.n1r b hb' hb)
  have F1 := Lib.hid ((Off.of_below HB.out (inD h rh)).trans (o1.mono fun b hb => .inl hb))
  have Y1 := Lib.hid (y0'.out.off o1 fun hb => by have := HX.out _ (.inl hb); omega)
  clear s1 o1 c0 c1
  have c2 := Y1.out.cellAt 2 (by simp)
  simp only [List.getElem_toArray, List.getElem_cons_zero, List.getElem_cons_succ] at c2
  go_wp2_with fail
  refine (markI64_k h.A2 h.n2 h.c2 lo hi k1 _ _ T1.out hn2 q1 (by omega)).mono ?_
  rintro e w2 ⟨rfl, s2, o2⟩
  rw [← E2.out]
  have T2 := Lib.hid s2
  have S2 := Lib.hid (S1.out.off o2 fun b hb hb' => HO.out.n12 b hb hb')
  have R2 := Lib.hid (R1.out.off o2 fun b hb hb' => HO.out.n2r b hb' hb)
  have F2 := Lib.hid (F1.out.trans (o2.mono fun b hb => .inr (.inl hb)))
  have Y2 := Lib.hid (Y1.out.off o2 fun hb => by have := HX.out _ (.inr (.inl hb)); omega)
  clear s2 o2 c2
  have c3 := Y2.out.cellAt 3 (by simp)
  simp only [List.getElem_toArray, List.getElem_cons_zero, List.getElem_cons_succ] at c3
  go_wp2_with fail
  refine (markRn_k h.A3 h.n3 h.c3 lo hi k2 d.runs rh _ R2.out hn3 HSR.out q3 (by omega)).mono ?_
  rintro e w3 ⟨rfl, r3, o3⟩
  have S3 := Lib.hid ((S2.out.off o3 fun b hb hb' => HO.out.n1r b hb hb').reads (Nat.le_refl hi))
  have T3 := Lib.hid ((T2.out.off o3 fun b hb hb' => HO.out.n2r b hb hb').reads (Nat.le_refl hi))
  have R3 := Lib.hid r3
  have F3 := Lib.hid (F2.out.trans (o3.mono fun b hb => .inr (.inr hb)))
  clear r3 o3 c3
  go_wp2
  go_ret
  refine ⟨by rw [k3D, K2.out, HT3.out]; rfl, ⟨?_, ?_, ?_⟩, F3.out⟩
  · show Reads _ _ _ _ _ (tbs (marksT k0 d.net.tubes.length)); rw [HT1.out]; exact S3.out
  · show Reads _ _ _ _ _ (ints (marksK (k1D k0 d) d.times.length)); rw [HT2.out, K1.out]; exact T3.out
  · show RunsR _ _ _ _ (markR (k2D k0 d) d.runs); rw [K2.out]; exact R3.out
set_option maxHeartbeats 1000000 in
theorem heldDesk_k (h : DkH) (d : Dk) (B : Nat) (k0 : Int) (w : World) (hr : DkR w B h (markD k0 d)) (hB : B ≤ w.heap.size) (hs : DkS h d) (hk0 : 0 ≤ k0) (hk1 : k0 ≤ 10000000) :
    Calls Tryd.prog 8 #[.agg #[.int .i64 d.net.sta, .slice h.A1 h.n1 h.c1, .slice h.A2 h.n2 h.c2, .slice h.A3 h.n3 h.c3, .string d.log], .int .i64 k0] w fun e w' => e = .returned (.int .i64 (k3D k0 d)) ∧ Below w.heap.size w w' := by
  have ht1 : d.net.tubes.length = h.n1 := by have := tbs_len hr.tubes; simpa [markD, marksT_length] using this
  have ht2 : d.times.length = h.n2 := by have := ints_len hr.times; simpa [markD, marksK_length] using this
  have ht3 : d.runs.length = h.n3 := by have := hr.runs.len; simpa [markD, markR_length] using this
  obtain ⟨e1, q1, q2, e2, q3, q4⟩ := k_bds ht1 ht2 hs hk0 hk1
  have HT3 := Lib.hid ht3
  have hn1 := hs.n1
  have hn2 := hs.n2
  have hn3 := hs.n3
  have HSR := Lib.hid hs.runs
  have r1 : Reads w B 3 h.A1 h.n1 (tbs (marksT k0 h.n1)) := by have := hr.tubes; simpa [markD, ht1] using this
  have r2 : Reads w B 1 h.A2 h.n2 (ints (marksK (k1D k0 d) h.n2)) := by have := hr.times; simpa [markD, ht2] using this
  have r3 : RunsR w B h.A3 h.n3 (markR (k2D k0 d) d.runs) := hr.runs
  obtain ⟨W, hW, y0, hb⟩ : ∃ W, W = w.alloc (.cells #[.int .i64 d.net.sta, .slice h.A1 h.n1 h.c1, .slice h.A2 h.n2 h.c2, .slice h.A3 h.n3 h.c3, .string d.log] 28) ∧ Blk W w.heap.size 28 #[.int .i64 d.net.sta, .slice h.A1 h.n1 h.c1, .slice h.A2 h.n2 h.c2, .slice h.A3 h.n3 h.c3, .string d.log] ∧ Below w.heap.size w W := ⟨_, rfl, Blk.new _ _ _, (Below.refl _ _).alloc (Nat.le_refl _) _⟩
  have HW := Lib.hid hW
  have HB := Lib.hid hb
  have Y0 := Lib.hid y0
  obtain ⟨k1, hk1'⟩ : ∃ q, k1D k0 d = q := ⟨_, rfl⟩
  obtain ⟨k2, hk2'⟩ : ∃ q, k2D k0 d = q := ⟨_, rfl⟩
  have K2 := Lib.hid hk2'
  rw [hk1'] at r2 e1 e2 q1 q2
  rw [hk2'] at r3 e2 q3 q4
  have E1 := Lib.hid e1
  have E2 := Lib.hid e2
  have R1 := Lib.hid (r1.on hB hb)
  have R2 := Lib.hid (r2.on hB hb)
  have R3 := Lib.hid (r3.on hB hb)
  have c0 := y0.cellAt 0 (by simp)
  have c1 := y0.cellAt 1 (by simp)
  simp only [List.getElem_toArray, List.getElem_cons_zero, List.getElem_cons_succ] at c0 c1
  clear hW hb y0 hr hs e1 e2 ht1 ht2 ht3 hk1' hk2' r1 r2 r3
  go_enter Tryd.func8, Tryd.ntmps8
  go_upto_region 1 with fail
  rw [← HW.out]
  go_wp2_with fail
  refine (heldNet_k h.A1 h.n1 h.c1 B d.net.sta k0 _ R1.out (Nat.le_trans hB HB.out.size) hn1 hk0 (by omega)).mono ?_
  rintro e w1 ⟨rfl, b1⟩
  rw [← E1.out]
  have HB1 := Lib.hid (bnext HB.out b1 (Nat.le_refl _))
  have Y1 := Lib.hid (Y0.out.on b1)
  have S2 := Lib.hid (R2.out.on (Nat.le_trans hB HB.out.size) b1)
  have S3 := Lib.hid (R3.out.on (Nat.le_trans hB HB.out.size) b1)
  clear b1 c0 c1
  have hg1 : decide (k1 < 0) = false := decide_eq_false (by omega)
  have c2 := Y1.out.cellAt 2 (by simp)
  simp only [List.getElem_toArray, List.getElem_cons_zero, List.getElem_cons_succ] at c2
  go_wp2_with fail
  refine (heldI64_k h.A2 h.n2 h.c2 B k1 _ S2.out hn2 q1 (by omega)).mono ?_
  rintro e w2 ⟨rfl, b2⟩
  rw [← E2.out]
  have HB2 := Lib.hid (bnext HB1.out b2 (Nat.le_refl _))
  have Y2 := Lib.hid (Y1.out.on b2)
  have U3 := Lib.hid (S3.out.on (Nat.le_trans hB HB1.out.size) b2)
  clear b2 c2
  have hg2 : decide (k2 < 0) = false := decide_eq_false (by omega)
  have c3 := Y2.out.cellAt 3 (by simp)
  simp only [List.getElem_toArray, List.getElem_cons_zero, List.getElem_cons_succ] at c3
  have hkb := kR_bd (k := k2) (fun i => wlen_small HSR.out i) h.n3
  have hg3 : decide (kR k2 d.runs h.n3 < 0) = false := decide_eq_false (by omega)
  go_wp2_with fail
  refine (heldRn_k h.A3 h.n3 h.c3 B k2 d.runs _ U3.out (Nat.le_trans hB HB2.out.size) HT3.out hn3 HSR.out q3 (by omega)).mono ?_
  rintro e w3 ⟨rfl, b3⟩
  have HB3 := Lib.hid (bnext HB2.out b3 (Nat.le_refl _))
  clear b3 c3
  obtain ⟨k3, hk3⟩ : ∃ q, kR k2 d.runs h.n3 = q := ⟨_, rfl⟩
  rw [hk3] at hg3 hkb ⊢
  have HO := Lib.hid (show k3D k0 d = k3 by rw [k3D, K2.out, HT3.out]; exact hk3)
  clear hk3
  go_wp2
  go_ret
  exact ⟨by rw [HO.out]; rfl, HB3.out⟩
end Go.Proofs.YtgcepomehgedfaaDoor
