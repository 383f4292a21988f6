/- The program's NetText: the text of a valid net, nothing for another. -/
import Derived.Test.YtjalgpioklcbfaaGreatDoorMgConsoleAF
import Derived.Test.YtjalgpioklcbfaaGreatDoorMgConsoleAA
import Derived.Test.YtjalgpioklcbfaaGreatDoorMgConsoleAD
import Derived.Test.YtjalgpioklcbfaaGreatDoorMgConsoleAC
import Derived.Test.YtjalgpioklcbfaaGreatDoorMgConsoleAB
import Derived.Test.YtjalgpioklcbfaaGreatDoorKShelf
set_option linter.unusedVariables false
set_option linter.unusedSimpArgs false
namespace Go.Proofs.YtjalgpioklcbfaaGreatDoor
open Go.RowKit Go.Lib

theorem info_str9 : (Tryz.prog.info? 9).map (fun i => (i.zero, i.size, i.bytes)) = some (some (.string ⟨#[]⟩), 1, 16) := by kernel_rfl
theorem strs_snoc9 (l : List ByteArray) (x : ByteArray) : strs (l ++ [x]) = strs l ++ [.string x] := by simp [strs]
theorem tbL_eq (t : Tb) : asBytes (itoa t.from_) ++ ⟨#[62]⟩ ++ asBytes (itoa t.to_) ++ ⟨#[42]⟩ ++ asBytes (itoa t.len) = asBytes (tbL t) := by
  rw [show (⟨#[62]⟩ : ByteArray) = asBytes [62] from rfl, show (⟨#[42]⟩ : ByteArray) = asBytes [42] from rfl]
  simp only [asBytes_app, tbL]
  congr 1
  simp
theorem tbL_len {t : Tb} (h : smallI t.from_ ∧ smallI t.to_ ∧ smallI t.len) : (tbL t).length ≤ 62 := by
  unfold smallI at h
  have h1 := itoa_len (n := t.from_) (by omega) (by omega)
  have h2 := itoa_len (n := t.to_) (by omega) (by omega)
  have h3 := itoa_len (n := t.len) (by omega) (by omega)
  simp only [tbL, List.length_append, List.length_cons]
  omega
/-- The words of a net's text. -/
def ntW (x : Nt) (k : Nat) : List ByteArray := asBytes (itoa x.sta ++ [58]) :: (x.tubes.take k).map fun t => asBytes (tbL t)
theorem ntW_step {x : Nt} {k : Nat} {t : Tb} (h : x.tubes[k]? = some t) : ntW x (k + 1) = ntW x k ++ [asBytes (tbL t)] := by
  simp [ntW, List.take_add_one, h]
theorem ntW_all (x : Nt) : (ntW x x.tubes.length).map (fun s => s.data.toList) = (itoa x.sta ++ [58]) :: x.tubes.map tbL := by
  simp [ntW, data_asBytes, Function.comp_def]

theorem ntW_zero (x : Nt) : strs (ntW x 0) = [.string (asBytes (itoa x.sta) ++ ⟨#[58]⟩)] := by
  rw [show (⟨#[58]⟩ : ByteArray) = asBytes [58] from rfl, asBytes_app]
  simp [ntW, strs]
theorem ntL_small {x : Nt} (h : okNt x = true) : (joinL 32 ((itoa x.sta ++ [58]) :: x.tubes.map tbL)).length ≤ 140737488355328 := by
  obtain ⟨h1, h2, h3⟩ := okNt_small h
  have := joinL_len 32 62 ((itoa x.sta ++ [58]) :: x.tubes.map tbL) (fun y hy => by
    rw [List.mem_cons, List.mem_map] at hy
    rcases hy with rfl | ⟨t, ht, rfl⟩
    · unfold smallI at h1
      have := itoa_len (n := x.sta) (by omega) (by omega)
      simp; omega
    · exact tbL_len (h3 t ht))
  simp only [List.length_cons, List.length_map] at this
  omega

set_option maxHeartbeats 1000000 in
set_option maxRecDepth 100000 in
theorem netText_any (A : Option Addr) (n c B : Nat) (x : Nt) (w : World) (h : Reads w B 3 A n (tbs x.tubes)) (hB : B ≤ w.heap.size) (hn : n ≤ 1048576) (ht : TabP w) :
    Calls Tryz.prog 67 #[.agg #[.int .i64 x.sta, .slice A n c]] w fun e w' => e = .returned (.string (asBytes (ntT x))) ∧ Below w.heap.size w w' := by
  have hl := tbs_len h
  obtain ⟨W, hW, k0, hb⟩ : ∃ W, W = w.alloc (.cells #[.int .i64 x.sta, .slice A n c] 28) ∧ Blk W w.heap.size 28 #[.int .i64 x.sta, .slice A n c] ∧ Below w.heap.size w W := ⟨_, rfl, Blk.new _ _ _, (Below.refl _ _).alloc (Nat.le_refl _) _⟩
  have HW := Lib.hid hW
  have HB := Lib.hid hb
  have HR := Lib.hid (h.on hB hb)
  have HR0 := Lib.hid h
  have HTW := Lib.hid ht
  have HBW := Lib.hid (Nat.le_trans hB hb.size)
  have c0 := k0.cellAt 0 (by simp)
  have c1 := k0.cellAt 1 (by simp)
  simp only [List.getElem_toArray, List.getElem_cons_zero, List.getElem_cons_succ] at c0 c1
  have HL := Lib.hid hl
  have HT := Lib.hid (tabUp ht hb)
  clear hW hb k0 h hl ht
  rcases ho : okNt x with _ | _
  · have HO := Lib.hid (show ntT x = [] by simp [ntT, ho])
    go_enter Tryz.func67, Tryz.ntmps67
    go_upto_region 1 with fail
    rw [← HW.out]
    go_wp2_with fail
    refine (implValidNet_any A n c B x W HR.out HBW.out hn).mono ?_
    rintro e w1 ⟨rfl, b1⟩
    rw [ho]
    go_wp2_with fail
    go_ret
    exact ⟨by rw [HO.out]; rfl, bnext HB.out b1 (Nat.le_refl _)⟩
  · obtain ⟨hs, h24, hsm⟩ := okNt_small ho
    have HOK := Lib.hid ho
    have HSM := Lib.hid hsm
    have hs0 : -9223372036854775808 ≤ x.sta := by unfold smallI at hs; omega
    have hs1 : x.sta ≤ 9223372036854775807 := by unfold smallI at hs; omega
    have hn24 : n ≤ 24 := by rw [← HL.out]; exact h24
    have hz1 : (asBytes (itoa x.sta)).size ≤ 20 := by rw [asBytes_size]; exact itoa_len (by omega) (by omega)
    have n1 : ¬ (9223372036854775807 < (asBytes (itoa x.sta)).size + 1) := by omega
    have HST := Lib.hid hs
    clear hs hsm h24
    go_enter Tryz.func67, Tryz.ntmps67
    go_upto_region 1 with fail
    rw [← HW.out]
    go_wp2_with fail
    refine (implValidNet_any A n c B x W HR.out HBW.out hn).mono ?_
    rintro e w1 ⟨rfl, b1⟩
    rw [ho]
    have HB1 := Lib.hid (bnext HB.out b1 (Nat.le_refl _))
    have HR1 := Lib.hid (HR.out.on HBW.out b1)
    have d0 := cell_on b1 c0
    have d1 := cell_on b1 c1
    have HT1 := Lib.hid (tabUp HT.out b1)
    clear c0 c1 b1 ho
    go_wp2_with fail
    refine (decimal_any x.sta _ hs0 hs1 HT1.out).mono ?_
    rintro e w2 ⟨rfl, b2⟩
    have HB2 := Lib.hid (bnext HB1.out b2 (Nat.le_refl _))
    have HR2 := Lib.hid (HR1.out.on (Nat.le_trans hB HB1.out.size) b2)
    have e1 := cell_on b2 d1
    have HT2 := Lib.hid (tabUp HT1.out b2)
    clear d0 d1 b2
    have HN := Lib.hid (HL.out)
    have HR3 := Lib.hid (HR2.out)
    have hnB : w.heap.size ≤ w2.heap.size := HB2.out.size
    have hB2 : B ≤ w2.heap.size := Nat.le_trans hB hnB
    go_upto_region 4 with fail
    obtain ⟨w3, hw3⟩ : ∃ y, w2.alloc (.cells #[.string (asBytes (itoa x.sta) ++ ⟨#[58]⟩)] 9) = y := ⟨_, rfl⟩
    have b3 : Below w2.heap.size w2 w3 := by rw [← hw3]; exact (Below.refl _ _).alloc (Nat.le_refl _) _
    have hsl3 : Sl w3 w.heap.size w3.heap.size 9 1 (some ⟨w2.heap.size, 0, none⟩) 1 1 (strs (ntW x 0)) := by
      rw [ntW_zero, ← hw3]
      exact Sl.of_blk (Blk.new _ _ _) hnB (by simp) rfl (by decide)
    rw [hw3]
    have f1 := cell_on b3 e1
    have HB3 := Lib.hid (bnext HB2.out b3 (Nat.le_refl _))
    clear hw3 b3 e1
    go_wp2_with fail
    go_loopw [3, 17] (fun o i wr => ∃ (k : Nat) (A' : Option Addr) (c' : Nat), k ≤ n ∧ i = .int .i64 k ∧ o = .slice A' (k + 1) c' ∧ Sl wr w.heap.size wr.heap.size 9 1 A' (k + 1) c' (strs (ntW x k)) ∧ Below w.heap.size w wr) (fun _ i _ => n - (RowKit.intOf i).toNat)
    case atStart => exact ⟨0, _, _, Nat.zero_le _, rfl, rfl, hsl3, HB3.out⟩
    case round =>
      obtain ⟨k, A', c', hk, rfl, rfl, hsl, hbel⟩ := hrel
      have HS := Lib.hid hsl
      have HBk := Lib.hid hbel
      clear hsl
      by_cases hlt : k < n
      · obtain ⟨t, b, off, he, rfl, hb, c0, c1, c2⟩ := tb_at (HR0.out.on hB hbel) hlt
        have HE := Lib.hid he
        have hsm := HSM.out t (List.mem_of_getElem? he)
        have hk24 : k < 24 := by omega
        have ht1 := hsm.1
        have ht2 := hsm.2.1
        have ht3 := hsm.2.2
        unfold smallI at ht1 ht2 ht3
        have hs1 : (asBytes (itoa t.from_)).size ≤ 20 := by rw [asBytes_size]; exact itoa_len (by omega) (by omega)
        have hs2 : (asBytes (itoa t.to_)).size ≤ 20 := by rw [asBytes_size]; exact itoa_len (by omega) (by omega)
        have hs3 : (asBytes (itoa t.len)).size ≤ 20 := by rw [asBytes_size]; exact itoa_len (by omega) (by omega)
        have n2 : ¬ (9223372036854775807 < (asBytes (itoa t.from_)).size + 1) := by omega
        have n3 : ¬ (9223372036854775807 < (asBytes (itoa t.from_)).size + 1 + (asBytes (itoa t.to_)).size) := by omega
        have n4 : ¬ (9223372036854775807 < (asBytes (itoa t.from_)).size + 1 + (asBytes (itoa t.to_)).size + 1) := by omega
        have n5 : ¬ (9223372036854775807 < (asBytes (itoa t.from_)).size + 1 + (asBytes (itoa t.to_)).size + 1 + (asBytes (itoa t.len)).size) := by omega
        clear he hbel hsm
        have hlt' : (k : Int) < n := by omega
        have hk0 : (0 : Int) ≤ k := by omega
        go_upto_region 7 with fail
        obtain ⟨u, hu⟩ : ∃ y, wr.alloc (.cells #[.int .i64 t.from_, .int .i64 t.to_, .int .i64 t.len] 101) = y := ⟨_, rfl⟩
        have yu : Blk u wr.heap.size 101 #[.int .i64 t.from_, .int .i64 t.to_, .int .i64 t.len] := by rw [← hu]; exact Blk.new _ _ _
        have bu : Below wr.heap.size wr u := by rw [← hu]; exact (Below.refl _ _).alloc (Nat.le_refl _) _
        rw [hu]
        have HSu := Lib.hid (HS.out.on bu).drew
        have HBu := Lib.hid (bnext HBk.out bu (Nat.le_refl _))
        have hne : ∀ ad, A' = some ad → ad.block ≠ wr.heap.size := fun ad had => by have := HS.out.2 ad had; omega
        have HNE := Lib.hid hne
        clear hu bu c0 c1 c2 hne
        refine wp_region_held_drew (S := (fun W => Below w.heap.size w W ∧ Blk W wr.heap.size 101 #[.int .i64 t.from_, .int .i64 t.to_, .int .i64 t.len])) (by kernel_rfl) ?_ (fun hHeld => ?_)
        · exact ⟨HBu.out.drew, yu.drew⟩
        refine tk 0 rfl ?_ ?_ ?_
        rotate_left
        · intro w _; go_simp; try with_reducible rfl
        try simp only [Act.put, ly]
        refine tk 1 rfl ?_ ?_ ?_
        rotate_left
        · intro w _; go_simp; try with_reducible rfl
        try simp only [Act.put, ly]
        refine tk 2 rfl ?_ ?_ ?_
        rotate_left
        · intro w hSw; (try dsimp only at hSw); (have e0 : w.cell? ⟨wr.heap.size, 0, none⟩ = some (.int .i64 t.from_) := hSw.2.cellAt 0 (by simp)); (have e1 : w.cell? ⟨wr.heap.size, 1, none⟩ = some (.int .i64 t.to_) := hSw.2.cellAt 1 (by simp)); (have e2 : w.cell? ⟨wr.heap.size, 2, none⟩ = some (.int .i64 t.len) := hSw.2.cellAt 2 (by simp)); go_simp; try with_reducible rfl
        try simp only [Act.put, ly]
        refine tk 5 rfl ?_ ?_ ?_
        rotate_left
        · intro w _; go_simp; try with_reducible rfl
        try simp only [Act.put, ly]
        refine tk 6 rfl ?_ ?_ ?_
        rotate_left
        · intro w hSw; (try dsimp only at hSw); (have e0 : w.cell? ⟨wr.heap.size, 0, none⟩ = some (.int .i64 t.from_) := hSw.2.cellAt 0 (by simp)); (have e1 : w.cell? ⟨wr.heap.size, 1, none⟩ = some (.int .i64 t.to_) := hSw.2.cellAt 1 (by simp)); (have e2 : w.cell? ⟨wr.heap.size, 2, none⟩ = some (.int .i64 t.len) := hSw.2.cellAt 2 (by simp)); go_simp; try with_reducible rfl
        try simp only [Act.put, ly]
        refine tk 10 rfl ?_ ?_ ?_
        rotate_left
        · intro w _; go_simp; try with_reducible rfl
        try simp only [Act.put, ly]
        refine tk 11 rfl ?_ ?_ ?_
        rotate_left
        · intro w hSw; (try dsimp only at hSw); (have e0 : w.cell? ⟨wr.heap.size, 0, none⟩ = some (.int .i64 t.from_) := hSw.2.cellAt 0 (by simp)); (have e1 : w.cell? ⟨wr.heap.size, 1, none⟩ = some (.int .i64 t.to_) := hSw.2.cellAt 1 (by simp)); (have e2 : w.cell? ⟨wr.heap.size, 2, none⟩ = some (.int .i64 t.len) := hSw.2.cellAt 2 (by simp)); go_simp; try with_reducible rfl
        try simp only [Act.put, ly]
        refine wpAnyH_ready (rs := [3]) (by kernel_rfl) (by simp) ?_
        refine AllReadyH.cons rfl (fun K hK => ?_) AllReadyH.nil
        go_simp
        go_at_call 38
        refine (decimal_any t.from_ _ (by omega) (by omega) (tabUp HTW.out hHeld.1)).mono ?_
        rintro e w5 ⟨rfl, b5⟩
        have HSw5 := Lib.hid (HSu.out.on b5)
        go_wp2_with fail
        refine hK.out _ _ ?_ (fun hNew => ?_)
        · exact ⟨bnext hHeld.1 b5 (Nat.le_refl _), hHeld.2.on b5⟩
        clear hK K hHeld
        have hHeld := hNew
        clear hNew
        try simp only [Act.put, ly]
        refine tk 4 rfl ?_ ?_ ?_
        rotate_left
        · intro w _; go_simp; try with_reducible rfl
        try simp only [Act.put, ly]
        refine wpAnyH_ready (rs := [7]) (by kernel_rfl) (by simp) ?_
        refine AllReadyH.cons rfl (fun K hK => ?_) AllReadyH.nil
        go_simp
        go_at_call 38
        refine (decimal_any t.to_ _ (by omega) (by omega) (tabUp HTW.out hHeld.1)).mono ?_
        rintro e w6 ⟨rfl, b6⟩
        have HSw6 := Lib.hid (HSw5.out.on b6)
        go_wp2_with fail
        refine hK.out _ _ ?_ (fun hNew => ?_)
        · exact ⟨bnext hHeld.1 b6 (Nat.le_refl _), hHeld.2.on b6⟩
        clear hK K hHeld
        have hHeld := hNew
        clear hNew
        try simp only [Act.put, ly]
        refine tk 8 rfl ?_ ?_ ?_
        rotate_left
        · intro w _; go_simp; try with_reducible rfl
        try simp only [Act.put, ly]
        refine tk 9 rfl ?_ ?_ ?_
        rotate_left
        · intro w _; go_simp; try with_reducible rfl
        try simp only [Act.put, ly]
        refine wpAnyH_ready (rs := [12]) (by kernel_rfl) (by simp) ?_
        refine AllReadyH.cons rfl (fun K hK => ?_) AllReadyH.nil
        go_simp
        go_at_call 38
        refine (decimal_any t.len _ (by omega) (by omega) (tabUp HTW.out hHeld.1)).mono ?_
        rintro e w7 ⟨rfl, b7⟩
        have HSw7 := Lib.hid (HSw6.out.on b7)
        have H7 := Lib.hid (bnext hHeld.1 b7 (Nat.le_refl _))
        have Y7 := Lib.hid (hHeld.2.on b7)
        have hz7 : w.heap.size ≤ w7.heap.size := H7.out.size
        go_wp2_with fail
        refine hK.out _ _ ?_ (fun hNew => ?_)
        · exact ⟨bnext hHeld.1 b7 (Nat.le_refl _), hHeld.2.on b7⟩
        clear hK K hHeld
        have hHeld := hNew
        clear hNew
        try simp only [Act.put, ly]
        refine tk 13 rfl ?_ ?_ ?_
        rotate_left
        · intro w _; go_simp; try with_reducible rfl
        try simp only [Act.put, ly]
        refine wpAnyH_ready (rs := [14]) (by kernel_rfl) (by simp) ?_
        refine AllReadyH.cons rfl (fun K hK => ?_) AllReadyH.nil
        go_simp
        refine hK.out _ _ ?_ (fun hNew => ?_)
        · exact ⟨bnext hHeld.1 ((Below.refl _ _).alloc (Nat.le_refl _) _) (Nat.le_refl _), hHeld.2.on ((Below.refl _ _).alloc (Nat.le_refl _) _)⟩
        clear hK K hHeld
        have hHeld := hNew
        clear hNew
        try simp only [Act.put, ly]
        refine wpAnyH_ready (rs := [15]) (by kernel_rfl) (by simp) ?_
        refine AllReadyH.cons rfl (fun K hK => ?_) AllReadyH.nil
        refine step_oneF rfl _ _ 24 rfl 9 _ 1 16 Tryz.underlying24 info_str9 rfl (by decide) (by decide) HSw7.out hz7 rfl [.string (asBytes (itoa t.from_) ++ (⟨#[62]⟩ : ByteArray) ++ asBytes (itoa t.to_) ++ (⟨#[42]⟩ : ByteArray) ++ asBytes (itoa t.len))] w7.heap.size rfl rfl rfl (fun u hu => by simp at hu; subst hu; rfl) (by omega) ?_
        intro A2 d2 w9 hs9 b9 f9 k9
        refine hK.out _ _ ?_ (fun hNew => ?_)
        · exact ⟨H7.out.trans b9, (f9 _ Y7.out.lt HNE.out).trans Y7.out⟩
        clear hK K hHeld
        have hHeld := hNew
        clear hNew
        try simp only [Act.put, ly]
        refine tk 16 rfl ?_ ?_ ?_
        rotate_left
        · intro w _; go_simp; try with_reducible rfl
        try simp only [Act.put, ly]
        refine wpAnyH_done (by kernel_rfl) ?_ _
        have HS9 := Lib.hid hs9
        have HF := Lib.hid hHeld.1
        clear hHeld hs9 b9 f9 k9 b5 b6 b7
        go_wp2
        go_roundw
        case rel =>
          refine ⟨k + 1, A2, d2, by omega, by go_num, rfl, ?_, HF.out⟩
          rw [ntW_step HE.out, strs_snoc9, ← tbL_eq]
          exact HS9.out
        case measure => simp [RowKit.intOf]; omega
      · obtain rfl : k = n := by omega
        have HO := Lib.hid (show ntT x = ntL x by simp [ntT, HOK.out])
        have hw := ntW_all x
        rw [HN.out] at hw
        have HWW := Lib.hid hw
        have hlen := Lib.hid (ntL_small HOK.out)
        clear hbel
        go_wp2_with fail
        refine (strJoin_any 32 A' (k + 1) c' _ _ (ntW x k) _ HS.out (by omega) (by rw [HWW.out]; exact hlen.out)).mono ?_
        rintro e w3 ⟨rfl, b3⟩
        rw [HWW.out]
        have HF := Lib.hid (bnext HBk.out b3 (Nat.le_refl _))
        clear b3
        go_wp2
        go_ret
        exact ⟨by rw [HO.out]; rfl, HF.out⟩
end Go.Proofs.YtjalgpioklcbfaaGreatDoor
