/- The desk at the beginning, both sides. -/
import Derived.Test.YtgcepomehgedfaaDoorMkE
set_option linter.unusedVariables false
set_option linter.unusedSimpArgs false
namespace Go.Proofs.YtgcepomehgedfaaDoor
open Go.RowKit Go.Lib

def net0 : Nt := ⟨3, [⟨0, 1, 30⟩, ⟨1, 2, 20⟩, ⟨2, 0, 40⟩]⟩
def desk0 : Dk := ⟨net0, [3, 2, 4], [], ⟨#[]⟩⟩
def txt0 : ByteArray := ⟨#[51, 58, 32, 48, 62, 49, 42, 51, 48, 32, 49, 62, 50, 42, 50, 48, 32, 50, 62, 48, 42, 52, 48]⟩
theorem netF_txt0 : netF txt0.data.toList = some net0 := by
  rw [show txt0.data.toList = ntL net0 by decide +kernel]
  exact netF_text (by decide +kernel)
theorem netV_txt0 : netV txt0 = net0 := netV_some netF_txt0
theorem OwnD.sizes {w : World} {lo hi : Nat} {h : DkH} {d : Dk} {rh : List RnH} (o : OwnD w lo hi h d rh) : d.net.tubes.length = h.n1 ∧ d.times.length = h.n2 ∧ d.runs.length = h.n3 := by
  have h1 := o.tubes.len
  have h2 := o.times.len
  rw [tbs_length] at h1
  rw [ints_length] at h2
  exact ⟨by omega, by omega, o.runs.len⟩
theorem desk0_S {w : World} {lo hi : Nat} {h : DkH} {rh : List RnH} (o : OwnD w lo hi h desk0 rh) : DkS h desk0 := by
  obtain ⟨h1, h2, h3⟩ := o.sizes
  refine ⟨by rw [← h1]; decide, by rw [← h2]; decide, by rw [← h3]; decide, fun k r hk => by simp [desk0] at hk, by decide⟩

theorem store5 {u : World} {g : Nat} {t : TypeId} {a b c d e : Value} (y : Blk u g t #[a, b, c, d, e]) (v0 v1 v2 v3 v4 : Value) :
    Blk (((((u.setCell ⟨g, 0, none⟩ v0).setCell ⟨g, 1, none⟩ v1).setCell ⟨g, 2, none⟩ v2).setCell ⟨g, 3, none⟩ v3).setCell ⟨g, 4, none⟩ v4) g t #[v0, v1, v2, v3, v4] ∧ (((((u.setCell ⟨g, 0, none⟩ v0).setCell ⟨g, 1, none⟩ v1).setCell ⟨g, 2, none⟩ v2).setCell ⟨g, 3, none⟩ v3).setCell ⟨g, 4, none⟩ v4).heap.size = u.heap.size ∧ Only g (g + 1) u (((((u.setCell ⟨g, 0, none⟩ v0).setCell ⟨g, 1, none⟩ v1).setCell ⟨g, 2, none⟩ v2).setCell ⟨g, 3, none⟩ v3).setCell ⟨g, 4, none⟩ v4) := by
  refine ⟨?_, by simp [World.setCell], ?_⟩
  · have := ((((y.set_ 0 v0).set_ 1 v1).set_ 2 v2).set_ 3 v3).set_ 4 v4
    simpa using this
  · exact (((((Only.refl g (g + 1) u).setCell (p := ⟨g, 0, none⟩) (Nat.le_refl _) (Nat.lt_succ_self _) v0).setCell (p := ⟨g, 1, none⟩) (Nat.le_refl _) (Nat.lt_succ_self _) v1).setCell (p := ⟨g, 2, none⟩) (Nat.le_refl _) (Nat.lt_succ_self _) v2).setCell (p := ⟨g, 3, none⟩) (Nat.le_refl _) (Nat.lt_succ_self _) v3).setCell (p := ⟨g, 4, none⟩) (Nat.le_refl _) (Nat.lt_succ_self _) v4
theorem Blk.keepOnly {w w' : World} {g lo hi : Nat} {t : TypeId} {cs : Array Value} (h : Blk w g t cs) (ho : Only lo hi w w') (hg : g < lo ∨ hi ≤ g) : Blk w' g t cs := (ho.block g h.lt hg).trans h
theorem Sl.keepOnly {w w' : World} {lo hi lo' hi' size n c : Nat} {t : TypeId} {A : Option Addr} {xs : List Value} (h : Sl w lo hi t size A n c xs) (ho : Only lo' hi' w w') (hd : hi ≤ lo' ∨ hi' ≤ lo) : Sl w' lo hi t size A n c xs := h.apart ho hd

set_option maxHeartbeats 1000000 in
set_option maxRecDepth 100000 in
theorem l28New_any (w : World) : Calls Tryd.prog 9 #[] w fun e w' => ∃ h : DkH, e = .returned (.agg #[.int .i64 3, .slice h.A1 h.n1 h.c1, .slice h.A2 h.n2 h.c2, .slice h.A3 h.n3 h.c3, .string ⟨#[]⟩]) ∧ OwnD w' w.heap.size w'.heap.size h desk0 [] ∧ Below w.heap.size w w' := by
  go_enter Tryd.func9, Tryd.ntmps9
  go_upto_region 1 with fail
  obtain ⟨u0, hu0⟩ : ∃ y, w.alloc (.cells #[.int .i64 0, .slice none 0 0, .slice none 0 0, .slice none 0 0, .string ⟨#[]⟩] 28) = y := ⟨_, rfl⟩
  have y0 : Blk u0 w.heap.size 28 #[.int .i64 0, .slice none 0 0, .slice none 0 0, .slice none 0 0, .string ⟨#[]⟩] := by rw [← hu0]; exact Blk.new _ _ _
  have b0 : Below w.heap.size w u0 := by rw [← hu0]; exact (Below.refl _ _).alloc (Nat.le_refl _) _
  have z0 : u0.heap.size = w.heap.size + 1 := by rw [← hu0]; simp
  rw [hu0]
  clear hu0
  go_upto_region 2 with fail
  obtain ⟨u1, hu1, z1, k1, k2, b1⟩ := two_al u0 #[.int .i64 0, .int .i64 1, .int .i64 30, .int .i64 1, .int .i64 2, .int .i64 20, .int .i64 2, .int .i64 0, .int .i64 40] #[.int .i64 3, .slice (some ⟨w.heap.size + 1, 0, none⟩) 3 3] 42 24
  rw [← hu1]
  rw [z0] at k1 k2
  have y1 := y0.on b1
  have B1 := Lib.hid (bnext b0 b1 (Nat.le_refl _))
  have c0 := k2.cellAt 0 (by simp)
  have c1 := k2.cellAt 1 (by simp)
  simp only [List.getElem_toArray, List.getElem_cons_zero, List.getElem_cons_succ] at c0 c1
  have d0 := y1.cellAt 0 (by simp)
  have d1 := y1.cellAt 1 (by simp)
  have d2 := y1.cellAt 2 (by simp)
  have d3 := y1.cellAt 3 (by simp)
  have d4 := y1.cellAt 4 (by simp)
  simp only [List.getElem_toArray, List.getElem_cons_zero, List.getElem_cons_succ] at d0 d1 d2 d3 d4
  have f0 := y1.frozen 0
  have f1 := y1.frozen 1
  have f2 := y1.frozen 2
  have f3 := y1.frozen 3
  have f4 := y1.frozen 4
  have yl := y1.lt
  have K1 := Lib.hid k1
  have Y1 := Lib.hid y1
  clear hu1 y0 y1 b0 b1 k1 k2
  go_wp2
  obtain ⟨q1, q2, q3⟩ := store5 Y1.out (.int .i64 3) (.slice (some ⟨w.heap.size + 1, 0, none⟩) 3 3) (.slice (some ⟨w.heap.size + 1 + 1 + 1, 0, none⟩) 3 3) (.slice none 0 0) (.string ⟨#[]⟩)
  have bv := bonly B1.out q3 (Nat.le_refl _) (Nat.le_refl _)
  have kv := K1.out.keepOnly q3 (.inr (Nat.le_refl _))
  obtain ⟨v, hv⟩ : ∃ y, (((((u1.setCell ⟨w.heap.size, 0, none⟩ (.int .i64 3)).setCell ⟨w.heap.size, 1, none⟩ (.slice (some ⟨w.heap.size + 1, 0, none⟩) 3 3)).setCell ⟨w.heap.size, 2, none⟩ (.slice (some ⟨w.heap.size + 1 + 1 + 1, 0, none⟩) 3 3)).setCell ⟨w.heap.size, 3, none⟩ (.slice none 0 0)).setCell ⟨w.heap.size, 4, none⟩ (.string ⟨#[]⟩)) = y := ⟨_, rfl⟩
  rw [hv] at q1 q2 bv kv ⊢
  clear hv q3
  have hvz : v.heap.size = w.heap.size + 1 + 1 + 1 := by omega
  have yn := Blk.new v 2 #[.int .i64 3, .int .i64 2, .int .i64 4]
  rw [hvz] at yn
  have ya := (q1.alloc (.cells #[.int .i64 3, .int .i64 2, .int .i64 4] 2))
  have yt := (kv.alloc (.cells #[.int .i64 3, .int .i64 2, .int .i64 4] 2))
  have yb := bv.alloc (by omega) (.cells #[.int .i64 3, .int .i64 2, .int .i64 4] 2)
  have yz : (v.alloc (.cells #[.int .i64 3, .int .i64 2, .int .i64 4] 2)).heap.size = w.heap.size + 1 + 1 + 1 + 1 := by simp [hvz]
  have g0 := ya.cellAt 0 (by simp)
  have g1 := ya.cellAt 1 (by simp)
  have g2 := ya.cellAt 2 (by simp)
  have g3 := ya.cellAt 3 (by simp)
  have g4 := ya.cellAt 4 (by simp)
  obtain ⟨z, hz⟩ : ∃ y, v.alloc (.cells #[.int .i64 3, .int .i64 2, .int .i64 4] 2) = y := ⟨_, rfl⟩
  rw [hz] at g0 g1 g2 g3 g4 yn ya yt yb yz ⊢
  refine bodyPost_ret (v := .agg #[.int .i64 3, .slice (some ⟨w.heap.size + 1, 0, none⟩) 3 3, .slice (some ⟨w.heap.size + 1 + 1 + 1, 0, none⟩) 3 3, .slice none 0 0, .string ⟨#[]⟩]) (by simp [results, Tryd.results9, go_sem, g0, g1, g2, g3, g4]) rfl ⟨⟨some ⟨w.heap.size + 1, 0, none⟩, 3, 3, some ⟨w.heap.size + 1 + 1 + 1, 0, none⟩, 3, 3, none, 0, 0⟩, rfl, ⟨?_, ?_, OwnR.nil _ _ _, ?_, ?_, ?_⟩, yb⟩
  · exact Sl.of_blk (xs := tbs net0.tubes) yt (by omega) (by rw [yz]; omega) rfl (by show 3 ≤ maxLen; decide)
  · exact Sl.of_blk (xs := ints [3, 2, 4]) yn (by omega) (by rw [yz]; omega) rfl (by show 3 ≤ maxLen; decide)
  · rintro b ⟨_, h1, rfl⟩ ⟨_, h2, h3⟩
    injection h1 with h1
    injection h2 with h2
    subst h1 h2
    simp only at h3
    omega
  · rintro b _ (hb | ⟨i, x, hx, _⟩)
    · exact inB_nil hb
    · simp at hx
  · rintro b _ (hb | ⟨i, x, hx, _⟩)
    · exact inB_nil hb
    · simp at hx
set_option maxHeartbeats 1000000 in
theorem specNewDesk_any (w : World) : Calls Tryd.prog 4 #[] w fun e w' => ∃ h : DkH, e = .returned (.agg #[.int .i64 3, .slice h.A1 h.n1 h.c1, .slice h.A2 h.n2 h.c2, .slice h.A3 h.n3 h.c3, .string ⟨#[]⟩]) ∧ OwnD w' w.heap.size w'.heap.size h desk0 [] ∧ Below w.heap.size w w' := by
  go_enter Tryd.func4, Tryd.ntmps4
  go_upto_region 1 with fail
  obtain ⟨u0, hu0⟩ : ∃ y, w.alloc (.cells #[.int .i64 0, .slice none 0 0, .slice none 0 0, .slice none 0 0, .string ⟨#[]⟩] 28) = y := ⟨_, rfl⟩
  have y0 : Blk u0 w.heap.size 28 #[.int .i64 0, .slice none 0 0, .slice none 0 0, .slice none 0 0, .string ⟨#[]⟩] := by rw [← hu0]; exact Blk.new _ _ _
  have b0 : Below w.heap.size w u0 := by rw [← hu0]; exact (Below.refl _ _).alloc (Nat.le_refl _) _
  have z0 : u0.heap.size = w.heap.size + 1 := by rw [← hu0]; simp
  rw [hu0]
  clear hu0
  have B0 := Lib.hid b0
  have Y0 := Lib.hid y0
  go_wp2_with fail
  refine (l28New_any u0).mono ?_
  rintro e w1 ⟨h, rfl, o1, b1⟩
  have y1 := Y0.out.on b1
  have B1 := Lib.hid (bnext B0.out b1 (Nat.le_refl _))
  have O1 := Lib.hid o1
  have Y1 := Lib.hid y1
  have d0 := y1.cellAt 0 (by simp)
  have d1 := y1.cellAt 1 (by simp)
  have d2 := y1.cellAt 2 (by simp)
  have d3 := y1.cellAt 3 (by simp)
  have d4 := y1.cellAt 4 (by simp)
  simp only [List.getElem_toArray, List.getElem_cons_zero, List.getElem_cons_succ] at d0 d1 d2 d3 d4
  have f0 := y1.frozen 0
  have f1 := y1.frozen 1
  have f2 := y1.frozen 2
  have f3 := y1.frozen 3
  have f4 := y1.frozen 4
  have yl := y1.lt
  clear b0 y0 b1 o1 y1
  go_wp2
  obtain ⟨q1, q2, q3⟩ := store5 Y1.out (.int .i64 3) (.slice h.A1 h.n1 h.c1) (.slice h.A2 h.n2 h.c2) (.slice h.A3 h.n3 h.c3) (.string ⟨#[]⟩)
  have bv := bonly B1.out q3 (Nat.le_refl _) (Nat.le_refl _)
  have ov := O1.out.off (S := fun b => b = w.heap.size) ⟨q3.os, q3.tape, q3.output, q3.size, fun k hk hn => q3.block k hk (by omega)⟩ (fun b hb e => by have := (O1.out.inD_lt hb).1; omega)
  have g0 := q1.cellAt 0 (by simp)
  have g1 := q1.cellAt 1 (by simp)
  have g2 := q1.cellAt 2 (by simp)
  have g3 := q1.cellAt 3 (by simp)
  have g4 := q1.cellAt 4 (by simp)
  obtain ⟨v, hv⟩ : ∃ y, (((((w1.setCell ⟨w.heap.size, 0, none⟩ (.int .i64 3)).setCell ⟨w.heap.size, 1, none⟩ (.slice h.A1 h.n1 h.c1)).setCell ⟨w.heap.size, 2, none⟩ (.slice h.A2 h.n2 h.c2)).setCell ⟨w.heap.size, 3, none⟩ (.slice h.A3 h.n3 h.c3)).setCell ⟨w.heap.size, 4, none⟩ (.string ⟨#[]⟩)) = y := ⟨_, rfl⟩
  rw [hv] at q2 bv ov g0 g1 g2 g3 g4 ⊢
  exact bodyPost_ret (v := .agg #[.int .i64 3, .slice h.A1 h.n1 h.c1, .slice h.A2 h.n2 h.c2, .slice h.A3 h.n3 h.c3, .string ⟨#[]⟩]) (by simp [results, Tryd.results4, go_sem, g0, g1, g2, g3, g4]) rfl ⟨h, rfl, (ov.wide (by omega) (Nat.le_refl _)).low, bv⟩

set_option maxHeartbeats 1000000 in
set_option maxRecDepth 100000 in
theorem implNewDesk_any (m : Int) (w : World) (hm : w.cell? ⟨0, 0, none⟩ = some (.int .i64 m)) (ht : TabP w) (hs : SynP w) : Calls Tryd.prog 5 #[] w fun e w' => ∃ h : DkH, e = .returned (.agg #[.int .i64 3, .slice h.A1 h.n1 h.c1, .slice h.A2 h.n2 h.c2, .slice h.A3 h.n3 h.c3, .string ⟨#[]⟩]) ∧ OwnD w' w.heap.size w'.heap.size h desk0 [] ∧ Below w.heap.size w w' := by
  go_enter Tryd.func5, Tryd.ntmps5
  go_upto_region 1 with fail
  obtain ⟨u0, hu0⟩ : ∃ y, w.alloc (.cells #[.int .i64 0, .slice none 0 0, .slice none 0 0, .slice none 0 0, .string ⟨#[]⟩] 28) = y := ⟨_, rfl⟩
  have y0 : Blk u0 w.heap.size 28 #[.int .i64 0, .slice none 0 0, .slice none 0 0, .slice none 0 0, .string ⟨#[]⟩] := by rw [← hu0]; exact Blk.new _ _ _
  have b0 : Below w.heap.size w u0 := by rw [← hu0]; exact (Below.refl _ _).alloc (Nat.le_refl _) _
  have z0 : u0.heap.size = w.heap.size + 1 := by rw [← hu0]; simp
  rw [hu0]
  clear hu0
  have B0 := Lib.hid b0
  have Y0 := Lib.hid y0
  have HM := Lib.hid (cell_on b0 hm)
  have HT := Lib.hid (tabUp ht b0)
  have HS := Lib.hid (synUp hs b0)
  clear hm ht hs b0 y0
  go_wp2_with fail
  refine (implReadNet_any txt0 m u0 (by decide) HM.out HT.out HS.out).mono ?_
  rintro e w1 ⟨A, n, c, rfl, s1, b1⟩
  rw [netV_txt0] at s1 ⊢
  rw [netF_txt0, show net0.sta = 3 from rfl]
  rw [show (some net0).isSome = true from rfl]
  have B1 := Lib.hid (bnext B0.out b1 (Nat.le_refl _))
  have Y1 := Lib.hid (Y0.out.on b1)
  have S1 := Lib.hid s1
  have zz1 : u0.heap.size ≤ w1.heap.size := b1.size
  clear b1 s1
  go_upto_region 2 with fail
  obtain ⟨u1, hu1⟩ : ∃ y, w1.alloc (.cells #[.int .i64 3, .slice A n c] 24) = y := ⟨_, rfl⟩
  have k1 : Blk u1 w1.heap.size 24 #[.int .i64 3, .slice A n c] := by rw [← hu1]; exact Blk.new _ _ _
  have b1 : Below w1.heap.size w1 u1 := by rw [← hu1]; exact (Below.refl _ _).alloc (Nat.le_refl _) _
  have z1 : u1.heap.size = w1.heap.size + 1 := by rw [← hu1]; simp
  rw [hu1]
  have y1 := Y1.out.on b1
  have B2 := Lib.hid (bnext B1.out b1 (Nat.le_refl _))
  have Y2 := Lib.hid y1
  have S2 := Lib.hid (S1.out.on b1)
  have c0 := k1.cellAt 0 (by simp)
  have c1 := k1.cellAt 1 (by simp)
  have d0 := y1.cellAt 0 (by simp)
  have d1 := y1.cellAt 1 (by simp)
  have d2 := y1.cellAt 2 (by simp)
  have d3 := y1.cellAt 3 (by simp)
  have d4 := y1.cellAt 4 (by simp)
  simp only [List.getElem_toArray, List.getElem_cons_zero, List.getElem_cons_succ] at c0 c1 d0 d1 d2 d3 d4
  have f0 := y1.frozen 0
  have f1 := y1.frozen 1
  have f2 := y1.frozen 2
  have f3 := y1.frozen 3
  have f4 := y1.frozen 4
  have yl := y1.lt
  have Z1 := Lib.hid z1
  have Z0 := Lib.hid z0
  clear hu1 k1 b1 y1 z1 z0
  go_wp2
  have z0 := Z0.out
  have z1 := Z1.out
  obtain ⟨q1, q2, q3⟩ := store5 Y2.out (.int .i64 3) (.slice A n c) (.slice (some ⟨u1.heap.size, 0, none⟩) 3 3) (.slice none 0 0) (.string ⟨#[]⟩)
  have bv := bonly B2.out q3 (Nat.le_refl _) (Nat.le_refl _)
  have sv := S2.out.apart q3 (.inr (by omega))
  obtain ⟨v, hv⟩ : ∃ y, (((((u1.setCell ⟨w.heap.size, 0, none⟩ (.int .i64 3)).setCell ⟨w.heap.size, 1, none⟩ (.slice A n c)).setCell ⟨w.heap.size, 2, none⟩ (.slice (some ⟨u1.heap.size, 0, none⟩) 3 3)).setCell ⟨w.heap.size, 3, none⟩ (.slice none 0 0)).setCell ⟨w.heap.size, 4, none⟩ (.string ⟨#[]⟩)) = y := ⟨_, rfl⟩
  rw [hv] at q1 q2 bv sv ⊢
  clear hv q3
  have yn := Blk.new v 2 #[.int .i64 3, .int .i64 2, .int .i64 4]
  rw [q2] at yn
  have ya := (q1.alloc (.cells #[.int .i64 3, .int .i64 2, .int .i64 4] 2))
  have yt := sv.on ((Below.refl v.heap.size v).alloc (Nat.le_refl _) (.cells #[.int .i64 3, .int .i64 2, .int .i64 4] 2))
  have yb := bv.alloc (by omega) (.cells #[.int .i64 3, .int .i64 2, .int .i64 4] 2)
  have yz : (v.alloc (.cells #[.int .i64 3, .int .i64 2, .int .i64 4] 2)).heap.size = u1.heap.size + 1 := by simp [q2]
  have g0 := ya.cellAt 0 (by simp)
  have g1 := ya.cellAt 1 (by simp)
  have g2 := ya.cellAt 2 (by simp)
  have g3 := ya.cellAt 3 (by simp)
  have g4 := ya.cellAt 4 (by simp)
  obtain ⟨z, hz⟩ : ∃ y, v.alloc (.cells #[.int .i64 3, .int .i64 2, .int .i64 4] 2) = y := ⟨_, rfl⟩
  rw [hz] at g0 g1 g2 g3 g4 yn ya yt yb yz ⊢
  refine bodyPost_ret (v := .agg #[.int .i64 3, .slice A n c, .slice (some ⟨u1.heap.size, 0, none⟩) 3 3, .slice none 0 0, .string ⟨#[]⟩]) (by simp [results, Tryd.results5, go_sem, g0, g1, g2, g3, g4]) rfl ⟨⟨A, n, c, some ⟨u1.heap.size, 0, none⟩, 3, 3, none, 0, 0⟩, rfl, ⟨?_, ?_, OwnR.nil _ _ _, ?_, ?_, ?_⟩, yb⟩
  · exact yt.wide (by omega) (by omega)
  · exact Sl.of_blk (xs := ints [3, 2, 4]) yn (by omega) (by rw [yz]; omega) rfl (by show 3 ≤ maxLen; decide)
  · rintro b hb ⟨_, h2, h3⟩
    have := sv.inB_lt hb
    injection h2 with h2
    subst h2
    simp only at h3
    omega
  · rintro b _ (hb | ⟨i, x, hx, _⟩)
    · exact inB_nil hb
    · simp at hx
  · rintro b _ (hb | ⟨i, x, hx, _⟩)
    · exact inB_nil hb
    · simp at hx
end Go.Proofs.YtgcepomehgedfaaDoor
