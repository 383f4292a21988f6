/- Commands of the console, as the program carries them out: stuck. -/
import Derived.Test.YtjalgpioklcbfaaGreatDoorMgConsoleAS
import Derived.Test.YtjalgpioklcbfaaGreatDoorMgConsoleAA
import Derived.Test.YtjalgpioklcbfaaGreatDoorMgConsoleAC
set_option linter.unusedVariables false
set_option linter.unusedSimpArgs false
namespace Go.Proofs.YtjalgpioklcbfaaGreatDoor
open Go.RowKit Go.Lib

theorem info_tr9 : (Tryz.prog.info? 132).map (fun i => (i.zero, i.size, i.bytes)) = some (some (.agg #[.int .i64 0, .int .i64 0]), 2, 16) := by kernel_rfl
theorem pairsOf_get : ∀ (k : Nat) (l : List Int) (a b : Int), l[2 * k]? = some a → l[2 * k + 1]? = some b → (pairsOf l)[k]? = some (a, b)
  | 0, [], a, b, h, _ => by simp at h
  | 0, [x], a, b, _, h => by simp at h
  | 0, x :: y :: l, a, b, h1, h2 => by
    simp at h1 h2
    subst h1
    subst h2
    rfl
  | k + 1, [], a, b, h, _ => by simp at h
  | k + 1, [x], a, b, h, _ => by simp at h
  | k + 1, x :: y :: l, a, b, h1, h2 => by
    rw [show 2 * (k + 1) = 2 * k + 1 + 1 by omega] at h1 h2
    rw [List.getElem?_cons_succ, List.getElem?_cons_succ] at h1 h2
    show (pairsOf l)[k]? = some (a, b)
    exact pairsOf_get k l a b h1 h2
theorem ints_two (l : List Int) (a b : Int) : ints (l ++ [a, b]) = ints l ++ [.int .i64 a, .int .i64 b] := by simp [ints]
theorem flatP_take : ∀ {l : List Tl} {k : Nat} {x : Tl}, l[k]? = some x → flatP (l.take (k + 1)) = flatP (l.take k) ++ [x.1, x.2]
  | [], k, x, h => by simp at h
  | y :: r, 0, x, h => by
    simp at h
    subst h
    obtain ⟨a, b⟩ := y
    simp [flatP]
  | y :: r, k + 1, x, h => by
    obtain ⟨a, b⟩ := y
    rw [List.getElem?_cons_succ] at h
    rw [List.take_succ_cons, List.take_succ_cons, flatP, flatP, flatP_take h]
    rfl
theorem outI_len1 : ∀ (l : List Sn) (i : Nat), (outI l i).length ≤ l.length
  | [], _ => Nat.le_refl _
  | s :: r, i => by
    have ih := outI_len1 r (i + 1)
    rw [outI, List.length_append, List.length_cons]
    split
    · rw [List.length_singleton]; omega
    · split
      · rw [List.length_singleton]; omega
      · rw [List.length_nil]; omega
theorem stuckF_len1 (D : Int) (ts : List Tl) : (stuckF D ts).1.length ≤ 16 := by
  unfold stuckF
  split
  · simp
  · rename_i h
    split
    · simp
    · have hok : okTr D ts = true := by simpa using h
      have hD : 1 ≤ D ∧ D ≤ 4 := by
        unfold okTr at hok
        rw [Bool.and_eq_true] at hok
        exact inR_true.1 hok.1
      have h1 := outI_len1 (seenL D.toNat ts) 0
      rw [seenL_len] at h1
      have : D.toNat = 1 ∨ D.toNat = 2 ∨ D.toNat = 3 ∨ D.toNat = 4 := by omega
      show (outI (seenL D.toNat ts) 0).length ≤ 16
      rcases this with e | e | e | e <;> rw [e] at h1 ⊢ <;> omega
theorem pairsOf_len : ∀ (p : Nat) (l : List Int), l.length = 2 * p → (pairsOf l).length = p
  | 0, [], _ => rfl
  | 0, x :: l, h => by simp at h
  | p + 1, [], h => by simp at h
  | p + 1, [x], h => by simp at h; omega
  | p + 1, x :: y :: l, h => by
    show ((x, y) :: pairsOf l).length = p + 1
    rw [List.length_cons, pairsOf_len p l (by simp at h; omega)]
set_option maxHeartbeats 4000000 in
set_option maxRecDepth 100000 in
theorem execStuck_any {w : World} {lo g : Nat} {h : DkH} {d : Dk} {rh : List RnH} {WA NA : Option Addr} {wn nn : Nat} {ws : List ByteArray} {ns : List Int} {m : Int} (wc nc : Nat) (x : ExIn w lo g h d rh WA wn ws NA nn ns m) (h0 : 0 < wn) (hw : ((wordAt ws 0).toList == [115, 116, 117, 99, 107]) = true) (hn : 1 ≤ nn) :
    Calls Tryz.prog 36 #[.pointer (some ⟨g, 0, none⟩), .slice WA wn wc, .slice NA nn nc] w fun e w' => ∃ LA ln lc, e = .returned (.tuple #[.slice LA ln lc, .int .i64 (execF d ws ns).code]) ∧ ∃ h' rh', ExOut w w' lo g h' (execF d ws ns).dk rh' LA ln lc (execF d ws ns).lines := by
  have HX := Lib.hid (show execF d ws ns = stuckC d ns by unfold execF; rw [if_neg (by rw [notW hw (by decide)]; decide), if_neg (by rw [notW hw (by decide)]; decide), if_neg (by rw [notW hw (by decide)]; decide), if_neg (by rw [notW hw (by decide)]; decide), if_neg (by rw [notW hw (by decide)]; decide), if_neg (by rw [notW hw (by decide)]; decide), if_neg (by rw [notW hw (by decide)]; decide), if_pos hw])
  have e0 := notW (l' := [110, 101, 116]) hw (by decide)
  have e1 := notW (l' := [119, 97, 121]) hw (by decide)
  have e2 := notW (l' := [116, 105, 109, 101, 115]) hw (by decide)
  have e3 := notW (l' := [114, 117, 110]) hw (by decide)
  have e4 := notW (l' := [114, 117, 110, 115]) hw (by decide)
  have e5 := notW (l' := [102, 114, 101, 101]) hw (by decide)
  have e6 := notW (l' := [115, 101, 97, 114, 99, 104]) hw (by decide)
  have XI := Lib.hid x
  obtain ⟨s, b0, o0, hs0, rfl, hb0, k0⟩ := str_at x.wsr h0
  rw [Nat.add_zero] at k0
  have hsw : wordAt ws 0 = s := by unfold wordAt; rw [List.getD_eq_getElem?_getD, hs0]; rfl
  rw [hsw] at hw e0 e1 e2 e3 e4 e5 e6
  obtain ⟨c0, c1, c2, c3, c4⟩ := cells5 x.blk
  obtain ⟨n0, bn0, on0, hn0, hNA0, _, q0⟩ := int_at x.nsr (k := 0) (by omega)
  subst hNA0
  rw [Nat.add_zero] at q0
  have HN0 := Lib.hid (show numAt ns 0 = n0 by unfold numAt; rw [List.getD_eq_getElem?_getD, hn0]; rfl)
  have hb0_ := x.nsb n0 (List.mem_of_getElem? hn0)
  have hi0 : 0 < nn := by omega
  clear x hs0 hsw hn0
  have hnl := ints_len XI.out.nsr
  have HXS := Lib.hid (show execF d ws ns = if nn % 2 = 0 then ⟨d, [], 7⟩ else ⟨d, [asBytes (numLn (flatP (stuckF n0 (pairsOf (ns.drop 1))).1))], (stuckF n0 (pairsOf (ns.drop 1))).2⟩ by rw [HX.out, stuckC, HN0.out, hnl])
  have HNL := Lib.hid hnl
  have acc0 := Acc.made w 132 2
  have HS0 := Lib.hid (acc0.sl (lo := w.heap.size) (Nat.le_refl _) (Nat.le_refl _))
  have HB0 := Lib.hid (acc0.below (B := w.heap.size) (Nat.le_refl _) (Nat.le_refl _))
  have hnn9 := XI.out.nl
  clear acc0 hnl c0 c1 c2 c3 c4
  by_cases hpar : nn % 2 = 0
  · have HXF := Lib.hid (show execF d ws ns = ⟨d, [], 7⟩ by rw [HXS.out, if_pos hpar])
    have hp2 : ((nn : Int) % 2 == 0) = true := by
      rw [beq_iff_eq]; omega
    clear hpar
    go_enter Tryz.func36, Tryz.ntmps36
    go_wp2
    go_ret2
    exact ⟨none, 0, 0, by rw [HXF.out]; rfl, h, rh, by rw [HXF.out]; exact XI.out.out (Below.refl _ _) (Sl.nil _ _ _ _ _)⟩
  have HXF := Lib.hid (show execF d ws ns = ⟨d, [asBytes (numLn (flatP (stuckF n0 (pairsOf (ns.drop 1))).1))], (stuckF n0 (pairsOf (ns.drop 1))).2⟩ by rw [HXS.out, if_neg hpar])
  have hp2 : ((nn : Int) % 2 == 0) = false := by
    rw [beq_eq_false_iff_ne]; omega
  obtain ⟨p, hp⟩ : ∃ p, nn = 2 * p + 1 := ⟨nn / 2, by omega⟩
  have HP := Lib.hid hp
  clear hpar hp
  go_enter Tryz.func36, Tryz.ntmps36
  go_wp2_with fail
  go_loopw [22, 23] (fun o i wr => ∃ (k j : Nat) (A' : Option Addr) (d' : Nat), k ≤ p ∧ j = 1 + 2 * k ∧ i = .int .i64 (j : Int) ∧ o = .slice A' k d' ∧ Sl wr w.heap.size wr.heap.size 132 2 A' k d' (tls ((pairsOf (ns.drop 1)).take k)) ∧ Below w.heap.size w wr) (fun _ i _ => nn - (RowKit.intOf i).toNat)
  case atStart => exact ⟨0, 1, _, _, Nat.zero_le _, rfl, rfl, rfl, HS0.out, HB0.out⟩
  case round =>
    obtain ⟨k, j, A', d', hk, hj, rfl, rfl, hsl, hbel⟩ := hrel
    have HS := Lib.hid hsl
    have HBr := Lib.hid hbel
    have HJ := Lib.hid hj
    have hj1 : 1 ≤ j := by omega
    have hj2 : j ≤ 1048577 := by have := HP.out; omega
    clear hsl hbel hj
    by_cases hlt : k < p
    · have hjn : j + 1 < nn := by have := HP.out; have := HJ.out; omega
      obtain ⟨xa, ba, oa, hxa, hAa, _, q1⟩ := int_at (XI.out.nsr.on (Nat.le_refl _) HBr.out) (k := j) (by omega)
      injection hAa with hAa
      injection hAa with hAb hAo
      subst hAb
      subst hAo
      obtain ⟨xb, bb, ob, hxb, hBa, hbb, q2⟩ := int_at (XI.out.nsr.on (Nat.le_refl _) HBr.out) (k := j + 1) (by omega)
      injection hBa with hBa
      injection hBa with hBb hBo
      subst hBb
      subst hBo
      have HPG := Lib.hid (pairsOf_get k (ns.drop 1) xa xb (by rw [List.getElem?_drop, ← hxa, HJ.out]) (by rw [List.getElem?_drop, ← hxb, HJ.out]; congr 1))
      have HTK := Lib.hid (show (pairsOf (ns.drop 1)).take (k + 1) = (pairsOf (ns.drop 1)).take k ++ [(xa, xb)] by rw [List.take_add_one, HPG.out]; rfl)
      have hj0 : (0 : Int) ≤ j := by omega
      have hjl : (j : Int) < nn := by omega
      have hjl2 : (j : Int) + 1 < nn := by omega
      have hk9 : k ≤ 1048577 := by have := HP.out; omega
      have hz : w.heap.size ≤ wr.heap.size := HBr.out.size
      clear hxa hxb
      have hw1 : IntKind.i64.wrap ((j : Int) + 1) = ((j + 1 : Nat) : Int) := by
        unfold IntKind.wrap; simp [IntKind.bits, IntKind.signed]; omega
      have hw2 : (((j + 1 : Nat) : Int)).toNat = j + 1 := by omega
      have hw4 : (0 : Int) ≤ (j : Int) + 1 := by omega
      have hw3 : (0 : Int) ≤ ((j + 1 : Nat) : Int) ∧ ((j + 1 : Nat) : Int) < nn := by omega
      go_upto_region 47 with fail
      refine wp_region_held_drew (S := (fun V => V.cell? ⟨bn0, on0 + j, none⟩ = some (.int .i64 xa) ∧ V.cell? ⟨bn0, on0 + (j + 1), none⟩ = some (.int .i64 xb))) (by kernel_rfl) ?_ (fun hHeld => ?_)
      · exact ⟨q1, q2⟩
      refine tk 0 rfl ?_ ?_ ?_
      rotate_left
      · intro w _; go_simp; try with_reducible rfl
      try simp only [Act.put, ly]
      refine tk 1 rfl ?_ ?_ ?_
      rotate_left
      · intro w _; go_simp; try with_reducible rfl
      try simp only [Act.put, ly]
      refine tk 2 rfl ?_ ?_ ?_
      rotate_left
      · intro w _; go_simp; try with_reducible rfl
      try simp only [Act.put, ly]
      refine tk 3 rfl ?_ ?_ ?_
      rotate_left
      · intro w _; go_simp; try with_reducible rfl
      try simp only [Act.put, ly]
      refine tk 4 rfl ?_ ?_ ?_
      rotate_left
      · intro w hSw; (try dsimp only at hSw); (have e1 := hSw.1); (have e2 := hSw.2); go_simp; try with_reducible rfl
      try simp only [Act.put, ly]
      refine tk 5 rfl ?_ ?_ ?_
      rotate_left
      · intro w _; go_simp; try with_reducible rfl
      try simp only [Act.put, ly]
      refine tk 6 rfl ?_ ?_ ?_
      rotate_left
      · intro w _; go_simp; try with_reducible rfl
      try simp only [Act.put, ly]
      refine tk 7 rfl ?_ ?_ ?_
      rotate_left
      · intro w _; go_simp; try with_reducible rfl
      try simp only [Act.put, ly]
      refine tk 8 rfl ?_ ?_ ?_
      rotate_left
      · intro w _; go_simp; try with_reducible rfl
      try simp only [Act.put, ly]
      refine tk 9 rfl ?_ ?_ ?_
      rotate_left
      · intro w hSw; (try dsimp only at hSw); (have e1 := hSw.1); (have e2 := hSw.2); go_simp; try with_reducible rfl
      try simp only [Act.put, ly]
      refine tk 10 rfl ?_ ?_ ?_
      rotate_left
      · intro w _; go_simp; try with_reducible rfl
      try simp only [Act.put, ly]
      refine wpAnyH_ready (rs := [11]) (by kernel_rfl) (by simp) ?_
      refine AllReadyH.cons rfl (fun K hK => ?_) AllReadyH.nil
      go_simp
      refine hK.out _ _ ?_ (fun hNew => ?_)
      · exact ⟨cell_on ((Below.refl _ _).alloc (Nat.le_refl _) _) hHeld.1, cell_on ((Below.refl _ _).alloc (Nat.le_refl _) _) hHeld.2⟩
      clear hK K hHeld
      have hHeld := hNew
      clear hNew
      try simp only [Act.put, ly]
      refine wpAnyH_ready (rs := [12]) (by kernel_rfl) (by simp) ?_
      refine AllReadyH.cons rfl (fun K hK => ?_) AllReadyH.nil
      refine step_oneF rfl _ _ 130 rfl 132 _ 2 16 Tryz.underlying130 info_tr9 rfl (by decide) (by decide) HS.out.drew hz rfl (cellsTl (xa, xb)) wr.heap.size rfl rfl rfl (tl_one _) (by omega) ?_
      intro A9 d9 w9 hs9 b9 f9 k9
      refine hK.out _ _ ?_ (fun hNew => ?_)
      · exact ⟨(b9.cell (p := ⟨bn0, on0 + j, none⟩) hbb).trans q1, (b9.cell (p := ⟨bn0, on0 + (j + 1), none⟩) hbb).trans q2⟩
      clear hK K hHeld
      have hHeld := hNew
      clear hNew
      try simp only [Act.put, ly]
      refine tk 13 rfl ?_ ?_ ?_
      rotate_left
      · intro w _; go_simp; try with_reducible rfl
      try simp only [Act.put, ly]
      refine wpAnyH_done (by kernel_rfl) ?_ _
      have HF := Lib.hid hs9
      have HBF := Lib.hid (HBr.out.drew.trans b9)
      clear hHeld hs9 b9 f9 k9 q1 q2
      go_wp2
      go_roundw
      case rel => exact ⟨k + 1, j + 2, A9, d9, by omega, by have := HJ.out; omega, by go_num, rfl, by rw [HTK.out, ← tls_snoc]; exact HF.out, HBF.out⟩
      case measure => simp [RowKit.intOf]; omega
    · obtain rfl : p = k := by omega
      have hpl := pairsOf_len p (ns.drop 1) (by rw [List.length_drop, HNL.out, HP.out]; omega)
      obtain ⟨ts, hts⟩ : ∃ z, pairsOf (ns.drop 1) = z := ⟨_, rfl⟩
      rw [hts] at hpl HS
      have HS2 := Lib.hid (show Sl wr w.heap.size wr.heap.size 132 2 A' p d' (tls ts) by have h := HS.out; rwa [List.take_of_length_le (by omega)] at h)
      have HXG := Lib.hid (show execF d ws ns = ⟨d, [asBytes (numLn (flatP (stuckF n0 ts).1))], (stuckF n0 ts).2⟩ by rw [HXF.out, hts])
      have hjn : ¬ (j : Int) < nn := by have := HP.out; have := HJ.out; omega
      have hp9 : p ≤ 1048576 := by have := HP.out; omega
      replace q0 := cell_on HBr.out q0
      clear hts hpl HS
      go_wp2_with fail
      refine (implStuck_any n0 A' p d' wr.heap.size ts wr (HS2.out.reads (Nat.le_refl _)) (Nat.le_refl _) hp9).mono ?_
      rintro e w6 ⟨A6, n6, d6, rfl, s6, b6⟩
      have HB6 := Lib.hid (bnext HBr.out b6 (Nat.le_refl _))
      have HR6 := Lib.hid (s6.reads (Nat.le_refl _))
      have HS6 := Lib.hid s6
      have HFB := Lib.hid (stuckF_bd n0 ts)
      have HLL := Lib.hid (stuckF_len1 n0 ts)
      obtain ⟨sf, hsf⟩ : ∃ z, stuckF n0 ts = z := ⟨_, rfl⟩
      rw [hsf] at HXG HR6 HFB HS6 HLL ⊢
      have HN6 := Lib.hid (tls_len HR6.out)
      clear s6 b6 hsf q0
      have acc6 := Acc.made w6 2 1
      have HA6 := Lib.hid (acc6.sl (lo := w.heap.size) HB6.out.size HB6.out.size)
      have HB7 := Lib.hid (HB6.out.trans ((acc6.below (B := w6.heap.size) (Nat.le_refl _) (Nat.le_refl _)).mono HB6.out.size))
      have HS7 := Lib.hid (HS6.out.on (acc6.below (B := w6.heap.size) (Nat.le_refl _) (Nat.le_refl _)))
      have HNE := Lib.hid (show ∀ b, inB A6 b → ¬ inB (some (⟨w6.heap.size, 0, none⟩ : Addr)) b from fun b hb ⟨ad, e, hh⟩ => by have h1 := (HS6.out.inB_lt hb).2; injection e with e; subst e; simp at hh; omega)
      have hn6 : n6 ≤ 100 := by have := HN6.out; have := HLL.out; omega
      clear acc6
      go_wp2_with fail
      go_loopw [26, 256] (fun o i wq => ∃ (k : Nat) (A' : Option Addr) (d' : Nat), k ≤ n6 ∧ i = .int .i64 (k : Int) ∧ o = .slice A' (2 * k) d' ∧ Sl wq w.heap.size wq.heap.size 2 1 A' (2 * k) d' (ints (flatP (sf.1.take k))) ∧ Sl wq 0 wq.heap.size 137 2 A6 n6 d6 (tls sf.1) ∧ (∀ b, inB A6 b → ¬ inB A' b) ∧ Below w.heap.size w wq) (fun _ i _ => n6 - (RowKit.intOf i).toNat)
      case atStart => exact ⟨0, _, _, Nat.zero_le _, rfl, rfl, HA6.out, (HS7.out.wide (Nat.zero_le _) (Nat.le_refl _)).low, HNE.out, HB7.out⟩
      case round =>
        obtain ⟨k, A', d', hk, rfl, rfl, hacc, hrd, hnb, hbel⟩ := hrel
        rename World => wq
        have HA := Lib.hid hacc
        have HR := Lib.hid hrd
        have HBq := Lib.hid hbel
        have HNB := Lib.hid hnb
        clear hacc hrd hnb hbel
        have hki : (0 : Int) ≤ k := by omega
        by_cases hlt : k < n6
        · obtain ⟨x, b, off, he, rfl, hb, q0, q1⟩ := tl_at (HR.out.reads (Nat.le_refl _)) hlt
          have HE := Lib.hid (flatP_take he)
          have hkn : (k : Int) < n6 := by omega
          clear he
          go_upto_region 53 with fail
          obtain ⟨u, hu⟩ : ∃ y, wq.alloc (.cells #[.int .i64 x.1, .int .i64 x.2] 137) = y := ⟨_, rfl⟩
          have yu : Blk u wq.heap.size 137 #[.int .i64 x.1, .int .i64 x.2] := by rw [← hu]; exact Blk.new _ _ _
          have bu : Below wq.heap.size wq u := by rw [← hu]; exact (Below.refl _ _).alloc (Nat.le_refl _) _
          rw [hu]
          have HBu := Lib.hid (bnext HBq.out bu (Nat.le_refl _))
          have HAu := Lib.hid (HA.out.on bu).low
          have HRu := Lib.hid (HR.out.on bu).low
          have p0 := yu.cellAt 0 (by simp)
          have p1 := yu.cellAt 1 (by simp)
          simp only [List.getElem_toArray, List.getElem_cons_zero, List.getElem_cons_succ] at p0 p1
          clear hu yu bu q0 q1
          obtain ⟨U, hU⟩ : ∃ y, u.alloc (.cells #[.int .i64 x.1, .int .i64 x.2] 2) = y := ⟨_, rfl⟩
          have yU : Blk U u.heap.size 2 #[.int .i64 x.1, .int .i64 x.2] := by rw [← hU]; exact Blk.new _ _ _
          have bU : Below u.heap.size u U := by rw [← hU]; exact (Below.refl _ _).alloc (Nat.le_refl _) _
          have HBU := Lib.hid (bnext HBu.out bU (Nat.le_refl _))
          have HAU := Lib.hid (HAu.out.on bU).low
          have HRU := Lib.hid (HRu.out.on bU).low
          have HCU := Lib.hid (Reads.cells (yU.readsL (xs := [.int .i64 x.1, .int .i64 x.2]) (n := 2) (size := 1) rfl))
          have hUz := HBU.out.size
          have HhU := Lib.hid hU
          clear yU bU hU
          go_wp2_with (at_builtin; rw [HhU.out]; refine wpList_manF rfl _ _ 29 rfl 2 _ 1 8 Tryz.underlying29 info_i64L rfl (by decide) (by decide) HAU.out hUz rfl u.heap.size 0 2 2 [.int .i64 x.1, .int .i64 x.2] rfl rfl HCU.out (fun v hv => by simp at hv; rcases hv with rfl | rfl <;> rfl) (by decide) (by omega) ?_; intro A9 d9 w9 hs9 b9 f9 k9; have HS9 := Lib.hid hs9; have HB9 := Lib.hid b9; have HF9 := Lib.hid f9; have HK9 := Lib.hid k9; clear hs9 b9 f9 k9)
          go_roundw
          case rel =>
            refine ⟨k + 1, A9, d9, by omega, by go_num, rfl, by rw [HE.out, ints_two]; exact HS9.out, (HRU.out.off (off_of HB9.out HF9.out) (fun b hb hc => HNB.out b hb hc)).low, fun b hb hc => ?_, HBU.out.trans HB9.out⟩
            obtain ⟨ad, e1, e2⟩ := hc
            exact HK9.out b (HRU.out.inB_heap hb) (fun ad' e' hh' => HNB.out b hb ⟨ad', e', hh'⟩) ad e1 e2
          case measure => simp [RowKit.intOf]; omega
        · obtain rfl : n6 = k := by omega
          have HT := Lib.hid (show sf.1.take n6 = sf.1 by rw [List.take_of_length_le (by have := HN6.out; omega)])
          have hsl := HA.out
          rw [HT.out] at hsl
          have HS := Lib.hid hsl
          clear hsl
          go_wp2_with fail
          refine (numbersLine_any A' (2 * n6) d' wq.heap.size (flatP sf.1) wq (HS.out.reads (Nat.le_refl _)) (Nat.le_refl _) (by omega) HFB.out (tabUp XI.out.tab HBq.out)).mono ?_
          rintro e w7 ⟨rfl, b7⟩
          have HB8 := Lib.hid (bnext HBq.out b7 (Nat.le_refl _))
          clear b7
          go_wp2
          go_ret2
          have hz := HB8.out.size
          exact ⟨_, _, _, by rw [HXG.out]; rfl, h, rh, by rw [HXG.out]; exact XI.out.out (HB8.out.alloc hz _) (Sl.one9 hz)⟩
end Go.Proofs.YtjalgpioklcbfaaGreatDoor
