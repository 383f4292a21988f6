/- ServedOrder and EarliestStart of the program. The spans of one tube as the program gathers and sorts them. -/
import Derived.Test.YtjalgpioklcbfaaGreatDoorKEsJ
import Derived.Test.YtjalgpioklcbfaaGreatDoorKSvJ
import Derived.Test.YtjalgpioklcbfaaGreatDoorMgConsoleAA
import Derived.Test.YtjalgpioklcbfaaGreatDoorMgConsoleAK
import Derived.Test.YtjalgpioklcbfaaGreatDoorKSrt
set_option linter.unusedVariables false
set_option linter.unusedSimpArgs false
namespace Go.Proofs.YtjalgpioklcbfaaGreatDoor
open Go.RowKit Go.Lib

set_option maxHeartbeats 1000000 in
theorem implServed_any (A : Option Addr) (n c B : Nat) (l : List It) (w : World) (h : Reads w B 3 A n (its l)) (hB : B ≤ w.heap.size) (hn : n ≤ 1048576) :
    Calls Tryz.prog 90 #[.slice A n c] w fun e w' => ∃ A' m d, e = .returned (.tuple #[.slice A' m d, .int .i64 (srvC l).2]) ∧ Sl w' w.heap.size w'.heap.size 2 1 A' m d (ints (srvC l).1) ∧ Below w.heap.size w w' := by
  go_enter Tryz.func90, Tryz.ntmps90
  go_wp2_with fail
  refine (validQueue_any A n c l B w h hB hn).mono ?_
  rintro e w1 ⟨rfl, b1⟩
  have HB1 := Lib.hid b1
  have HR1 := Lib.hid (h.on hB b1)
  clear b1 h
  rcases ho : okQ l with _ | _
  · have HO := Lib.hid (show srvC l = ([], 1) by unfold srvC; rw [if_pos ho])
    go_wp2
    go_ret2
    exact ⟨none, 0, 0, by rw [HO.out]; rfl, by rw [HO.out]; exact Sl.nil _ _ _ _ _, HB1.out⟩
  · have HO := Lib.hid (show srvC l = (svR l, 0) by unfold srvC; rw [if_neg (by rw [ho]; decide)])
    have HOK := Lib.hid ho
    clear ho
    go_wp2_with fail
    refine (served_any A n c B l w1 HR1.out (Nat.le_trans hB HB1.out.size) HOK.out).mono ?_
    rintro e w2 ⟨A', m, d, v, rfl, s2, b2⟩
    have HS := Lib.hid s2
    have HB2 := Lib.hid (bnext HB1.out b2 (Nat.le_refl _))
    clear b2 s2
    go_wp2
    go_ret2
    exact ⟨A', m, d, by rw [HO.out]; rfl, by rw [HO.out]; exact HS.out.wide HB1.out.size (Nat.le_refl _), HB2.out⟩
theorem earlF_1 {ts : List Int} {rs : List Rn} {way : List Int} {a : Int} (h : okRuns ts rs = false) : earlF ts rs way a = (0, 1) := by unfold earlF; rw [if_pos h]
theorem earlF_2 {ts : List Int} {rs : List Rn} {way : List Int} {a : Int} (h : okRuns ts rs = true) (h2 : (okWay ts way && inR a 0 100000) = false) : earlF ts rs way a = (0, 2) := by unfold earlF; rw [if_neg (by rw [h]; decide), if_pos h2]
theorem earlF_3 {ts : List Int} {rs : List Rn} {way : List Int} {a : Int} (h : okRuns ts rs = true) (h2 : (okWay ts way && inR a 0 100000) = true) : earlF ts rs way a = if 100000 < earl ts rs way a then (0, 5) else (earl ts rs way a, 0) := by unfold earlF; rw [if_neg (by rw [h]; decide), if_neg (by rw [h2]; decide)]
set_option maxHeartbeats 1000000 in
theorem implEarliest_any (Q : Option Addr) (m d : Nat) (ts : List Int) (RA : Option Addr) (rn rc : Nat) (rs : List Rn) (A : Option Addr) (n c B : Nat) (way : List Int) (a : Int) (w : World) (ht : Reads w B 1 Q m (ints ts)) (hr : RunsR w B RA rn rs) (h : Reads w B 1 A n (ints way)) (hB : B ≤ w.heap.size) (hm : m ≤ 1048576) (hrn : rn ≤ 1048576) (hsm : SmallR rs) (hn : n ≤ 1048576) :
    Calls Tryz.prog 84 #[.slice Q m d, .slice RA rn rc, .slice A n c, .int .i64 a] w fun e w' => e = .returned (.tuple #[.int .i64 (earlF ts rs way a).1, .int .i64 (earlF ts rs way a).2]) ∧ Below w.heap.size w w' := by
  have HRT := Lib.hid ht
  have HRR := Lib.hid hr
  have HR := Lib.hid h
  have hts := ints_len ht
  have HTS := Lib.hid hts
  have HSM := Lib.hid hsm
  clear ht hr h hsm hts
  go_enter Tryz.func84, Tryz.ntmps84
  go_wp2_with fail
  refine (implValidRuns_any Q m d ts RA rn rc B rs w HRT.out HRR.out hB hm hrn HSM.out).mono ?_
  rintro e w1 ⟨rfl, b1⟩
  have HB1 := Lib.hid b1
  clear b1
  rcases e1 : okRuns ts rs with _ | _
  · have HO := Lib.hid (earlF_1 (way := way) (a := a) e1)
    go_wp2
    go_ret2
    exact ⟨by rw [HO.out]; rfl, HB1.out⟩
  have H1 := Lib.hid e1
  clear e1
  go_wp2_with fail
  refine (isRunWay_any Q m d ts hm HTS.out A n c B way w1 (HR.out.on hB HB1.out) (Nat.le_trans hB HB1.out.size) hn).mono ?_
  rintro e w2 ⟨rfl, b2⟩
  have HB2 := Lib.hid (bnext HB1.out b2 (Nat.le_refl _))
  clear b2
  rcases e2 : okWay ts way with _ | _
  · have HO := Lib.hid (earlF_2 (way := way) (a := a) H1.out (by rw [e2]; rfl))
    go_wp2
    go_ret2
    exact ⟨by rw [HO.out]; rfl, HB2.out⟩
  have H2 := Lib.hid e2
  clear e2
  go_wp2_with fail
  refine (within_any _ _ _ _).mono ?_
  rintro e w3 ⟨rfl, rfl⟩
  rcases e3 : inR a 0 100000 with _ | _
  · have HO := Lib.hid (earlF_2 (way := way) (a := a) H1.out (by rw [H2.out, e3]; rfl))
    go_wp2
    go_ret2
    exact ⟨by rw [HO.out]; rfl, HB2.out⟩
  have HO := Lib.hid (earlF_3 (way := way) (a := a) H1.out (by rw [H2.out, e3]; rfl))
  have hab := inR_true.1 e3
  clear e3
  go_wp2_with fail
  refine (earliest_any Q m d ts RA rn rc rs A n c B way a w2 (HRT.out.on hB HB2.out) (HRR.out.on hB HB2.out) (HR.out.on hB HB2.out) (Nat.le_trans hB HB2.out.size) H1.out H2.out hab.1 hab.2).mono ?_
  rintro e w4 ⟨rfl, b4⟩
  have HB4 := Lib.hid (bnext HB2.out b4 (Nat.le_refl _))
  obtain ⟨E, hE⟩ : ∃ z, earl ts rs way a = z := ⟨_, rfl⟩
  rw [hE] at HO ⊢
  clear b4 hE
  by_cases hlt : 100000 < E
  · have hd : decide (100000 < E) = true := decide_eq_true hlt
    have HP := Lib.hid (show earlF ts rs way a = (0, 5) by rw [HO.out, if_pos hlt])
    go_wp2
    go_ret2
    exact ⟨by rw [HP.out]; rfl, HB4.out⟩
  · have hd : decide (100000 < E) = false := decide_eq_false hlt
    have HP := Lib.hid (show earlF ts rs way a = (E, 0) by rw [HO.out, if_neg hlt])
    go_wp2
    go_ret2
    exact ⟨by rw [HP.out]; rfl, HB4.out⟩
end Go.Proofs.YtjalgpioklcbfaaGreatDoor
namespace Go.Proofs.YtjalgpioklcbfaaGreatDoor
open Go.RowKit Go.Lib

def Gr (w V : World) : Prop := ∃ q os, V = Sort.grow (w.drewN q) os
theorem Gr.refl (w : World) : Gr w w := ⟨0, #[], by rw [Sort.grow_empty, World.drewN_zero]⟩
theorem Gr.alloc {w V : World} (h : Gr w V) (o : Obj) : Gr w (V.alloc o) := by
  obtain ⟨q, os, rfl⟩ := h
  exact ⟨q, os ++ #[o], by rw [Sort.alloc_eq_grow, Sort.grow_grow]⟩
theorem Gr.drew {w V : World} (h : Gr w V) : Gr w V.drew := by
  obtain ⟨q, os, rfl⟩ := h
  exact ⟨q + 1, os, by rw [Sort.drew_grow, World.drew_drewN]⟩
instance : Inhabited Sp := ⟨⟨0, 0, 0⟩⟩
def cmpSp (x y : Sp) : Int := orF (Lib.compareInt x.enter y.enter) (Lib.compareInt x.leave y.leave)
def ltSp (x y : Sp) : Bool := decide (x.enter < y.enter) || (decide (x.enter = y.enter) && decide (x.leave < y.leave))
theorem ltOf_cmpSp (x y : Sp) : Go.Proofs.ltOf cmpSp x y = ltSp x y := by
  unfold Go.Proofs.ltOf cmpSp orF Lib.compareInt ltSp
  rcases Int.lt_trichotomy x.enter y.enter with h | h | h
  · simp [h]
  · rw [h]
    rcases Int.lt_trichotomy x.leave y.leave with k | k | k
    · simp [k]
    · simp [k]
    · have h1 : ¬ x.leave < y.leave := by omega
      simp [h1, k]
  · have h1 : ¬ x.enter < y.enter := by omega
    have h2 : ¬ x.enter = y.enter := by omega
    simp [h1, h2, h]
theorem ltSp_true {x y : Sp} : ltSp x y = true ↔ x.enter < y.enter ∨ (x.enter = y.enter ∧ x.leave < y.leave) := by simp [ltSp]
theorem ltSp_false {x y : Sp} : ltSp x y = false ↔ ¬ (x.enter < y.enter ∨ (x.enter = y.enter ∧ x.leave < y.leave)) := by rw [← ltSp_true]; simp
theorem swo_cmpSp : Sort.SWO (Go.Proofs.ltOf cmpSp) where
  irrefl x := by rw [ltOf_cmpSp, ltSp_false]; omega
  trans x y z h1 h2 := by
    rw [ltOf_cmpSp, ltSp_true] at *
    omega
  ntrans x y z h1 h2 := by
    rw [ltOf_cmpSp, ltSp_false] at *
    omega
set_option maxHeartbeats 4000000 in
set_option maxRecDepth 100000 in
theorem spansIn1_any (x y : Sp) (w : World) :
    Calls Tryz.prog 210 #[.agg (cellsSp x).toArray, .agg (cellsSp y).toArray] w fun e w' => e = .returned (.int .i64 (cmpSp x y)) ∧ ∃ q os', w' = Sort.grow (w.drewN q) os' := by
  obtain ⟨W, hW, hg, hz, k0, k1, hb⟩ : ∃ W, W = (w.alloc (.cells #[.int .i64 x.tube, .int .i64 x.enter, .int .i64 x.leave] 196)).alloc (.cells #[.int .i64 y.tube, .int .i64 y.enter, .int .i64 y.leave] 196) ∧ Gr w W ∧ W.heap.size = w.heap.size + 1 + 1 ∧ Blk W w.heap.size 196 #[.int .i64 x.tube, .int .i64 x.enter, .int .i64 x.leave] ∧ Blk W (w.heap.size + 1) 196 #[.int .i64 y.tube, .int .i64 y.enter, .int .i64 y.leave] ∧ Below w.heap.size w W := by
    obtain ⟨W, hW, hz, k0, k1, hb⟩ := two_al w #[.int .i64 x.tube, .int .i64 x.enter, .int .i64 x.leave] #[.int .i64 y.tube, .int .i64 y.enter, .int .i64 y.leave] 196 196
    exact ⟨W, hW, by rw [hW]; exact ((Gr.refl w).alloc _).alloc _, hz, k0, k1, hb⟩
  have HW := Lib.hid hW
  have HG := Lib.hid hg
  have a1 := k0.cellAt 1 (by simp)
  have a2 := k0.cellAt 2 (by simp)
  have d1 := k1.cellAt 1 (by simp)
  have d2 := k1.cellAt 2 (by simp)
  simp only [List.getElem_toArray, List.getElem_cons_zero, List.getElem_cons_succ] at a1 a2 d1 d2
  clear hW hg hz k0 k1 hb
  change Calls Tryz.prog 210 #[.agg #[.int .i64 x.tube, .int .i64 x.enter, .int .i64 x.leave], .agg #[.int .i64 y.tube, .int .i64 y.enter, .int .i64 y.leave]] w _
  go_enter Tryz.func210, Tryz.ntmps210
  go_upto_region 1 with fail
  rw [← HW.out]
  refine wp_region_held_drew (S := (fun V => Gr w V ∧ Below W.heap.size W V)) (by kernel_rfl) ?_ (fun hHeld => ?_)
  · exact ⟨HG.out.drew, (Below.refl _ _).drew⟩
  refine tk 0 rfl ?_ ?_ ?_
  rotate_left
  · intro w _; go_simp; try with_reducible rfl
  try simp only [Act.put, ly]
  refine tk 1 rfl ?_ ?_ ?_
  rotate_left
  · intro w hSw; (try dsimp only at hSw); (have e1 := cell_on hSw.2 a1); (have e2 := cell_on hSw.2 a2); (have i1 := cell_on hSw.2 d1); (have i2 := cell_on hSw.2 d2); go_simp; try with_reducible rfl
  try simp only [Act.put, ly]
  refine tk 2 rfl ?_ ?_ ?_
  rotate_left
  · intro w _; go_simp; try with_reducible rfl
  try simp only [Act.put, ly]
  refine tk 3 rfl ?_ ?_ ?_
  rotate_left
  · intro w hSw; (try dsimp only at hSw); (have e1 := cell_on hSw.2 a1); (have e2 := cell_on hSw.2 a2); (have i1 := cell_on hSw.2 d1); (have i2 := cell_on hSw.2 d2); go_simp; try with_reducible rfl
  try simp only [Act.put, ly]
  refine tk 5 rfl ?_ ?_ ?_
  rotate_left
  · intro w _; go_simp; try with_reducible rfl
  try simp only [Act.put, ly]
  refine tk 6 rfl ?_ ?_ ?_
  rotate_left
  · intro w hSw; (try dsimp only at hSw); (have e1 := cell_on hSw.2 a1); (have e2 := cell_on hSw.2 a2); (have i1 := cell_on hSw.2 d1); (have i2 := cell_on hSw.2 d2); go_simp; try with_reducible rfl
  try simp only [Act.put, ly]
  refine tk 7 rfl ?_ ?_ ?_
  rotate_left
  · intro w _; go_simp; try with_reducible rfl
  try simp only [Act.put, ly]
  refine tk 8 rfl ?_ ?_ ?_
  rotate_left
  · intro w hSw; (try dsimp only at hSw); (have e1 := cell_on hSw.2 a1); (have e2 := cell_on hSw.2 a2); (have i1 := cell_on hSw.2 d1); (have i2 := cell_on hSw.2 d2); go_simp; try with_reducible rfl
  try simp only [Act.put, ly]
  refine wpAnyH_ready (rs := [4]) (by kernel_rfl) (by simp) ?_
  refine AllReadyH.cons rfl (fun K hK => ?_) AllReadyH.nil
  go_simp
  refine (compareI_any _ _ _).mono ?_
  rintro e v7 ⟨rfl, h7⟩
  rw [h7]
  go_wp2_with fail
  refine hK.out _ _ ?_ (fun hNew => ?_)
  · exact hHeld
  clear hK K hHeld
  have hHeld := hNew
  clear hNew
  try simp only [Act.put, ly]
  refine wpAnyH_ready (rs := [9]) (by kernel_rfl) (by simp) ?_
  refine AllReadyH.cons rfl (fun K hK => ?_) AllReadyH.nil
  go_simp
  refine (compareI_any _ _ _).mono ?_
  rintro e v8 ⟨rfl, h8⟩
  rw [h8]
  go_wp2_with fail
  refine hK.out _ _ ?_ (fun hNew => ?_)
  · exact hHeld
  clear hK K hHeld
  have hHeld := hNew
  clear hNew
  try simp only [Act.put, ly]
  refine wpAnyH_ready (rs := [10]) (by kernel_rfl) (by simp) ?_
  refine AllReadyH.cons rfl (fun K hK => ?_) AllReadyH.nil
  go_simp
  refine hK.out _ _ ?_ (fun hNew => ?_)
  · exact ⟨hHeld.1.alloc _, bnext hHeld.2 ((Below.refl _ _).alloc (Nat.le_refl _) _) (Nat.le_refl _)⟩
  clear hK K hHeld
  have hHeld := hNew
  clear hNew
  try simp only [Act.put, ly]
  refine wpAnyH_ready (rs := [11]) (by kernel_rfl) (by simp) ?_
  refine AllReadyH.cons rfl (fun K hK => ?_) AllReadyH.nil
  go_simp
  refine (orI_any _ _ _ _ (Blk.new W _ _).drew).mono ?_
  rintro e v9 ⟨rfl, h9⟩
  rw [h9]
  go_wp2_with fail
  refine hK.out _ _ ?_ (fun hNew => ?_)
  · exact hHeld
  clear hK K hHeld
  have hHeld := hNew
  clear hNew
  try simp only [Act.put, ly]
  refine tk 12 rfl ?_ ?_ ?_
  rotate_left
  · intro w _; go_simp; try with_reducible rfl
  try simp only [Act.put, ly]
  refine wpAnyH_done (by kernel_rfl) ?_ _
  have HF := Lib.hid hHeld.1
  clear hHeld
  go_wp2
  go_ret
  exact ⟨rfl, HF.out⟩
theorem sps_get : ∀ (l : List Sp) (j : Nat), j < l.length * 3 → (sps l)[j]? = some ((Sort.flatK cellsSp 3 l.toArray)[j]!) := by
  intro l j hj
  rw [Sort.get_flatK _ _ _ _ (by simpa using hj)]
  have hd : j / 3 < l.length := by omega
  have hg : (l.toArray)[j / 3]! = l[j / 3] := by rw [getElem!_pos _ _ (by simpa using hd)]; simp
  rw [hg]
  have aux : ∀ (l : List Sp) (j : Nat) (hj : j < l.length * 3) (hd : j / 3 < l.length), (sps l)[j]? = some ((cellsSp l[j / 3])[j % 3]!) := by
    intro l
    induction l with
    | nil => intro j hj; simp at hj
    | cons x l ih =>
      intro j hj hd
      have e : sps (x :: l) = cellsSp x ++ sps l := rfl
      rw [e]
      by_cases h3 : j < 3
      · rw [List.getElem?_append_left (by simpa [cellsSp] using h3)]
        match j, h3 with
        | 0, _ => rfl
        | 1, _ => rfl
        | 2, _ => rfl
      · obtain ⟨i, rfl⟩ : ∃ i, j = i + 3 := ⟨j - 3, by omega⟩
        rw [List.getElem?_append_right (by simp [cellsSp])]
        have h1 : i + 3 - (cellsSp x).length = i := by simp [cellsSp]
        have h2 : (i + 3) / 3 = i / 3 + 1 := by omega
        have h4 : (i + 3) % 3 = i % 3 := by omega
        rw [h1, ih i (by simp at hj; omega) (by simp at hj; omega), h4]
        simp only [h2, List.getElem_cons_succ]
  exact aux l j hj hd
theorem sorted_below {enc : Sp → List Value} {k : Nat} {w : World} {g n : Nat} {d : Array Sp} {os : Array Obj} {lo : Nat} (hg : lo ≤ g) (hlo : lo ≤ w.heap.size) : Below lo w (Go.Proofs.sortWorldK enc k w g 0 n d os) := by
  refine ⟨rfl, rfl, rfl, Go.Proofs.size_sortWorldK_c enc k w g 0 n d os, fun b hb => ?_⟩
  unfold Go.Proofs.sortWorldK Sort.grow Sort.putRowK Sort.putRow Sort.mapBlock Sort.ahead
  simp only
  rw [Array.getElem?_append_left (by simp; omega), Array.getElem?_modify]
  rw [if_neg (by omega)]
set_option maxHeartbeats 4000000 in
theorem sortSp_any (g q c lo : Nat) (l : List Sp) (w : World) (hs : Sl w lo w.heap.size 196 3 (some ⟨g, 0, none⟩) q c (sps l)) (hlo : lo ≤ w.heap.size) (hg : lo ≤ g) (hgw : g < w.heap.size) (hq : q ≤ 1048576) :
    Calls Tryz.prog 209 #[.slice (some ⟨g, 0, none⟩) q c, .func (.func 210) #[] #[]] w fun e w' => e = .returned (.tuple #[]) ∧ ∃ l', Reads w' w'.heap.size 3 (some ⟨g, 0, none⟩) q (sps l') ∧ (∀ x, x ∈ l' ↔ x ∈ l) ∧ Below lo w w' := by
  have eg : ∀ args w, (callFunc 210 args).run Tryz.prog w = .ok (.enter 210 args) w := enters_of Tryz.func210 (by kernel_rfl) rfl
  have hlen : l.length = q := by have := hs.len; rw [sps_length] at this; omega
  have hsz : l.toArray.size = q := by simpa using hlen
  have hH : Sort.HoldsK cellsSp 3 w g 0 l.toArray := by
    intro j hj
    rw [Sort.size_flatK, hsz] at hj
    rw [Nat.zero_add, hs.cellAt j hj, sps_get l j (by omega)]
    exact ⟨rfl, hs.frozenAt j⟩
  have hcon := AnyQ.slices_SortFunc Tryz.sortSpan 3 Tryz.isAgg196 Tryz.sizeOf196 cellsSp (fun _ => rfl) (fun x => sp_one x) cmpSp swo_cmpSp 210 #[] g 0 c l.toArray w eg (fun m os dk _ x y => spansIn1_any x y _) hH hgw (by omega)
  rw [hsz] at hcon
  refine hcon.mono ?_
  rintro e w' ⟨rfl, d', n, os, hp, _, rfl⟩
  have hps : d'.size = q := by rw [hp.1, hsz]
  refine ⟨rfl, d'.toList, ⟨?_, fun hn => ⟨_, rfl, rfl, ?_, fun j u hu => ?_⟩⟩, fun x => ?_, sorted_below hg hlo⟩
  · rw [sps_length]; simp [hps]
  · exact Nat.lt_of_lt_of_le hgw (Go.Proofs.size_sortWorldK_c cellsSp 3 w g 0 n d' os)
  · have hj : j < q * 3 := by
      have := (List.getElem?_eq_some_iff.1 hu).1
      rw [sps_length] at this
      simpa [hps] using this
    have h1 := Go.Proofs.holdsK_sortWorldK_c cellsSp 3 w g 0 l.toArray d' n os hH hgw (by rw [hps, hsz])
    have h2 := (h1 j (by rw [Sort.size_flatK, hps]; exact hj)).1
    have h3 := sps_get d'.toList j (by simpa [hps] using hj)
    rw [hu] at h3
    simp only [Array.toArray_toList] at h3
    injection h3 with h3
    rw [h2, h3]
    rfl
  · have h1 := hp.2.2
    rw [Array.extract_eq_self_of_le (by omega), Array.extract_eq_self_of_le (by omega)] at h1
    rw [h1.mem_iff]
end Go.Proofs.YtjalgpioklcbfaaGreatDoor
