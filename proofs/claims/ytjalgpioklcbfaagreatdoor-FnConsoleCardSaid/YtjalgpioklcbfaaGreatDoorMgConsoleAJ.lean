/- The desk at the beginning, both sides. Lines for the console, drawn. The distances of all stations to one, as the program does it. -/
import Derived.Test.YtjalgpioklcbfaaGreatDoorMgConsoleAI
import Derived.Test.YtjalgpioklcbfaaGreatDoorMgConsoleAA
import Derived.Test.YtjalgpioklcbfaaGreatDoorMgConsoleAB
import Derived.Test.YtjalgpioklcbfaaGreatDoorMgConsoleAH
import Derived.Test.YtjalgpioklcbfaaGreatDoorKNtW
import Derived.Test.YtjalgpioklcbfaaGreatDoorMgConsoleAE
import Derived.Test.YtjalgpioklcbfaaGreatDoorKWyP
import Derived.Deep.QuietTactic
set_option linter.unusedVariables false
set_option linter.unusedSimpArgs false
namespace Go.Proofs.YtjalgpioklcbfaaGreatDoor
open Go.RowKit Go.Lib

def net0 : Nt := ⟨3, [⟨0, 1, 30⟩, ⟨1, 2, 20⟩, ⟨2, 0, 40⟩]⟩
def desk0 : Dk := ⟨net0, [3, 2, 4], [], ⟨#[]⟩⟩
def txt0 : ByteArray := ⟨#[51, 58, 32, 48, 62, 49, 42, 51, 48, 32, 49, 62, 50, 42, 50, 48, 32, 50, 62, 48, 42, 52, 48]⟩
theorem netF_txt0 : netF txt0.data.toList = some net0 := by
  rw [show txt0.data.toList = ntL net0 by decide +kernel]
  exact netF_text (by decide +kernel)
theorem netV_txt0 : netV txt0 = net0 := netV_some netF_txt0
theorem OwnD.sizes {w : World} {lo hi : Nat} {h : DkH} {d : Dk} {rh : List RnH} (o : OwnD w lo hi h d rh) : d.net.tubes.length = h.n1 ∧ d.times.length = h.n2 ∧ d.runs.length = h.n3 := by
  have h1 := o.tubes.len
  have h2 := o.times.len
  rw [tbs_length] at h1
  rw [ints_length] at h2
  exact ⟨by omega, by omega, o.runs.len⟩
theorem store5 {u : World} {g : Nat} {t : TypeId} {a b c d e : Value} (y : Blk u g t #[a, b, c, d, e]) (v0 v1 v2 v3 v4 : Value) :
    Blk (((((u.setCell ⟨g, 0, none⟩ v0).setCell ⟨g, 1, none⟩ v1).setCell ⟨g, 2, none⟩ v2).setCell ⟨g, 3, none⟩ v3).setCell ⟨g, 4, none⟩ v4) g t #[v0, v1, v2, v3, v4] ∧ (((((u.setCell ⟨g, 0, none⟩ v0).setCell ⟨g, 1, none⟩ v1).setCell ⟨g, 2, none⟩ v2).setCell ⟨g, 3, none⟩ v3).setCell ⟨g, 4, none⟩ v4).heap.size = u.heap.size ∧ Only g (g + 1) u (((((u.setCell ⟨g, 0, none⟩ v0).setCell ⟨g, 1, none⟩ v1).setCell ⟨g, 2, none⟩ v2).setCell ⟨g, 3, none⟩ v3).setCell ⟨g, 4, none⟩ v4) := by
  refine ⟨?_, by simp [World.setCell], ?_⟩
  · have := ((((y.set_ 0 v0).set_ 1 v1).set_ 2 v2).set_ 3 v3).set_ 4 v4
    simpa using this
  · exact (((((Only.refl g (g + 1) u).setCell (p := ⟨g, 0, none⟩) (Nat.le_refl _) (Nat.lt_succ_self _) v0).setCell (p := ⟨g, 1, none⟩) (Nat.le_refl _) (Nat.lt_succ_self _) v1).setCell (p := ⟨g, 2, none⟩) (Nat.le_refl _) (Nat.lt_succ_self _) v2).setCell (p := ⟨g, 3, none⟩) (Nat.le_refl _) (Nat.lt_succ_self _) v3).setCell (p := ⟨g, 4, none⟩) (Nat.le_refl _) (Nat.lt_succ_self _) v4
theorem Sl.keepOnly {w w' : World} {lo hi lo' hi' size n c : Nat} {t : TypeId} {A : Option Addr} {xs : List Value} (h : Sl w lo hi t size A n c xs) (ho : Only lo' hi' w w') (hd : hi ≤ lo' ∨ hi' ≤ lo) : Sl w' lo hi t size A n c xs := h.apart ho hd

set_option maxHeartbeats 1000000 in
set_option maxRecDepth 100000 in
theorem implNewDesk_any (m : Int) (w : World) (hm : w.cell? ⟨1, 0, none⟩ = some (.int .i64 m)) (ht : TabP w) (hs : SynP w) : Calls Tryz.prog 8 #[] w fun e w' => ∃ h : DkH, e = .returned (.agg #[.int .i64 3, .slice h.A1 h.n1 h.c1, .slice h.A2 h.n2 h.c2, .slice h.A3 h.n3 h.c3, .string ⟨#[]⟩]) ∧ OwnD w' w.heap.size w'.heap.size h desk0 [] ∧ Below w.heap.size w w' := by
  go_enter Tryz.func8, Tryz.ntmps8
  go_upto_region 1 with fail
  obtain ⟨u0, hu0⟩ : ∃ y, w.alloc (.cells #[.int .i64 0, .slice none 0 0, .slice none 0 0, .slice none 0 0, .string ⟨#[]⟩] 32) = y := ⟨_, rfl⟩
  have y0 : Blk u0 w.heap.size 32 #[.int .i64 0, .slice none 0 0, .slice none 0 0, .slice none 0 0, .string ⟨#[]⟩] := by rw [← hu0]; exact Blk.new _ _ _
  have b0 : Below w.heap.size w u0 := by rw [← hu0]; exact (Below.refl _ _).alloc (Nat.le_refl _) _
  have z0 : u0.heap.size = w.heap.size + 1 := by rw [← hu0]; simp
  rw [hu0]
  clear hu0
  have B0 := Lib.hid b0
  have Y0 := Lib.hid y0
  have HM := Lib.hid (cell_on b0 hm)
  have HT := Lib.hid (tabUp ht b0)
  have HS := Lib.hid (synUp hs b0)
  clear hm ht hs b0 y0
  go_wp2_with fail
  refine (implReadNet_any txt0 m u0 (by decide) HM.out HT.out HS.out).mono ?_
  rintro e w1 ⟨A, n, c, rfl, s1, b1⟩
  rw [netV_txt0] at s1 ⊢
  rw [netF_txt0, show net0.sta = 3 from rfl]
  rw [show (some net0).isSome = true from rfl]
  have B1 := Lib.hid (bnext B0.out b1 (Nat.le_refl _))
  have Y1 := Lib.hid (Y0.out.on b1)
  have S1 := Lib.hid s1
  have zz1 : u0.heap.size ≤ w1.heap.size := b1.size
  clear b1 s1
  go_upto_region 2 with fail
  obtain ⟨u1, hu1⟩ : ∃ y, w1.alloc (.cells #[.int .i64 3, .slice A n c] 28) = y := ⟨_, rfl⟩
  have k1 : Blk u1 w1.heap.size 28 #[.int .i64 3, .slice A n c] := by rw [← hu1]; exact Blk.new _ _ _
  have b1 : Below w1.heap.size w1 u1 := by rw [← hu1]; exact (Below.refl _ _).alloc (Nat.le_refl _) _
  have z1 : u1.heap.size = w1.heap.size + 1 := by rw [← hu1]; simp
  rw [hu1]
  have y1 := Y1.out.on b1
  have B2 := Lib.hid (bnext B1.out b1 (Nat.le_refl _))
  have Y2 := Lib.hid y1
  have S2 := Lib.hid (S1.out.on b1)
  have c0 := k1.cellAt 0 (by simp)
  have c1 := k1.cellAt 1 (by simp)
  have d0 := y1.cellAt 0 (by simp)
  have d1 := y1.cellAt 1 (by simp)
  have d2 := y1.cellAt 2 (by simp)
  have d3 := y1.cellAt 3 (by simp)
  have d4 := y1.cellAt 4 (by simp)
  simp only [List.getElem_toArray, List.getElem_cons_zero, List.getElem_cons_succ] at c0 c1 d0 d1 d2 d3 d4
  obtain ⟨f0, f1, f2, f3, f4⟩ := frozen5 y1
  have yl := y1.lt
  have Z1 := Lib.hid z1
  have Z0 := Lib.hid z0
  clear hu1 k1 b1 y1 z1 z0
  go_wp2
  have z0 := Z0.out
  have z1 := Z1.out
  obtain ⟨q1, q2, q3⟩ := store5 Y2.out (.int .i64 3) (.slice A n c) (.slice (some ⟨u1.heap.size, 0, none⟩) 3 3) (.slice none 0 0) (.string ⟨#[]⟩)
  have bv := bonly B2.out q3 (Nat.le_refl _) (Nat.le_refl _)
  have sv := S2.out.apart q3 (.inr (by omega))
  obtain ⟨v, hv⟩ : ∃ y, (((((u1.setCell ⟨w.heap.size, 0, none⟩ (.int .i64 3)).setCell ⟨w.heap.size, 1, none⟩ (.slice A n c)).setCell ⟨w.heap.size, 2, none⟩ (.slice (some ⟨u1.heap.size, 0, none⟩) 3 3)).setCell ⟨w.heap.size, 3, none⟩ (.slice none 0 0)).setCell ⟨w.heap.size, 4, none⟩ (.string ⟨#[]⟩)) = y := ⟨_, rfl⟩
  rw [hv] at q1 q2 bv sv ⊢
  clear hv q3
  have yn := Blk.new v 2 #[.int .i64 3, .int .i64 2, .int .i64 4]
  rw [q2] at yn
  have ya := (q1.alloc (.cells #[.int .i64 3, .int .i64 2, .int .i64 4] 2))
  have yt := sv.on ((Below.refl v.heap.size v).alloc (Nat.le_refl _) (.cells #[.int .i64 3, .int .i64 2, .int .i64 4] 2))
  have yb := bv.alloc (by omega) (.cells #[.int .i64 3, .int .i64 2, .int .i64 4] 2)
  have yz : (v.alloc (.cells #[.int .i64 3, .int .i64 2, .int .i64 4] 2)).heap.size = u1.heap.size + 1 := by simp [q2]
  have g0 := ya.cellAt 0 (by simp)
  have g1 := ya.cellAt 1 (by simp)
  have g2 := ya.cellAt 2 (by simp)
  have g3 := ya.cellAt 3 (by simp)
  have g4 := ya.cellAt 4 (by simp)
  obtain ⟨z, hz⟩ : ∃ y, v.alloc (.cells #[.int .i64 3, .int .i64 2, .int .i64 4] 2) = y := ⟨_, rfl⟩
  rw [hz] at g0 g1 g2 g3 g4 yn ya yt yb yz ⊢
  refine bodyPost_ret (v := .agg #[.int .i64 3, .slice A n c, .slice (some ⟨u1.heap.size, 0, none⟩) 3 3, .slice none 0 0, .string ⟨#[]⟩]) (by simp [results, Tryz.results8, go_sem, g0, g1, g2, g3, g4]) rfl ⟨⟨A, n, c, some ⟨u1.heap.size, 0, none⟩, 3, 3, none, 0, 0⟩, rfl, ⟨?_, ?_, OwnR.nil _ _ _, ?_, ?_, ?_⟩, yb⟩
  · exact yt.wide (by omega) (by omega)
  · exact Sl.of_blk (xs := ints [3, 2, 4]) yn (by omega) (by rw [yz]; omega) rfl (by show 3 ≤ maxLen; decide)
  · rintro b hb ⟨_, h2, h3⟩
    have := sv.inB_lt hb
    injection h2 with h2
    subst h2
    simp only at h3
    omega
  · rintro b _ (hb | ⟨i, x, hx, _⟩)
    · exact inB_nil hb
    · simp at hx
  · rintro b _ (hb | ⟨i, x, hx, _⟩)
    · exact inB_nil hb
    · simp at hx
end Go.Proofs.YtjalgpioklcbfaaGreatDoor
namespace Go.Proofs.YtjalgpioklcbfaaGreatDoor
open Go.RowKit Go.Lib

/-- A line: no newline in it, and small. -/
def LinP (s : ByteArray) : Prop := (10 : UInt8) ∉ s.data.toList ∧ s.size ≤ 100
def linG0 : List ByteArray := [⟨#[110, 101, 116, 32, 51, 58, 32, 48, 62, 49, 42, 51, 48, 32, 49, 62, 50, 42, 50, 48, 32, 48, 62, 50, 42, 54, 48]⟩, ⟨#[110, 101, 116, 32, 50, 58, 32, 48, 62, 49, 42, 53]⟩, ⟨#[110, 101, 116, 32, 49, 58]⟩, ⟨#[110, 101, 116]⟩, ⟨#[110, 101, 116, 32, 50, 58, 32, 48, 62, 50, 42, 53]⟩, ⟨#[119, 97, 121, 32, 48, 32, 50]⟩, ⟨#[119, 97, 121, 32, 50, 32, 48]⟩, ⟨#[119, 97, 121, 32, 49, 32, 49]⟩, ⟨#[119, 97, 121, 32, 48, 32, 57]⟩, ⟨#[119, 97, 121, 32, 48, 32, 120]⟩]
theorem linG0_ok : ∀ x ∈ linG0, LinP x := by unfold LinP; decide
def linG1 : List ByteArray := [⟨#[116, 105, 109, 101, 115, 32, 51, 32, 50, 32, 52]⟩, ⟨#[116, 105, 109, 101, 115, 32, 53]⟩, ⟨#[116, 105, 109, 101, 115, 32, 48]⟩, ⟨#[116, 105, 109, 101, 115]⟩, ⟨#[116, 105, 109, 101, 115, 32, 49, 48, 48, 49]⟩, ⟨#[116, 105, 109, 101, 115, 32, 53, 32, 51]⟩, ⟨#[116, 105, 109, 101, 115, 32, 120]⟩]
theorem linG1_ok : ∀ x ∈ linG1, LinP x := by unfold LinP; decide
def linG2 : List ByteArray := [⟨#[114, 117, 110, 32, 48, 32, 48, 32, 49]⟩, ⟨#[114, 117, 110, 32, 48, 32, 48]⟩, ⟨#[114, 117, 110, 32, 53, 32, 50, 32, 48]⟩, ⟨#[114, 117, 110, 32, 48, 32, 57]⟩, ⟨#[114, 117, 110, 32, 45, 49, 32, 48]⟩, ⟨#[114, 117, 110, 32, 49, 48, 48, 48, 48, 48, 32, 48]⟩, ⟨#[114, 117, 110, 32, 49]⟩, ⟨#[114, 117, 110, 32, 120, 32, 48]⟩]
theorem linG2_ok : ∀ x ∈ linG2, LinP x := by unfold LinP; decide
def linG3 : List ByteArray := [⟨#[114, 117, 110, 115]⟩, ⟨#[114, 117, 110, 115, 32, 49]⟩, ⟨#[102, 114, 101, 101, 32, 48, 32, 48, 32, 51]⟩, ⟨#[102, 114, 101, 101, 32, 48, 32, 51, 32, 57]⟩, ⟨#[102, 114, 101, 101, 32, 57, 32, 48, 32, 49]⟩, ⟨#[102, 114, 101, 101, 32, 48, 32, 53, 32, 49]⟩, ⟨#[102, 114, 101, 101, 32, 48, 32, 48]⟩, ⟨#[102, 114, 101, 101, 32, 48, 32, 120, 32, 49]⟩]
theorem linG3_ok : ∀ x ∈ linG3, LinP x := by unfold LinP; decide
def linG4 : List ByteArray := [⟨#[115, 101, 97, 114, 99, 104, 32, 51, 32, 49, 32, 53, 32, 49]⟩, ⟨#[115, 101, 97, 114, 99, 104, 32, 48, 32, 49, 32, 53, 32, 49]⟩, ⟨#[115, 101, 97, 114, 99, 104, 32, 52, 32, 49, 32, 53, 32, 49]⟩, ⟨#[115, 101, 97, 114, 99, 104, 32, 49, 32, 48]⟩, ⟨#[115, 101, 97, 114, 99, 104, 32, 48]⟩, ⟨#[115, 116, 117, 99, 107, 32, 50, 32, 51, 32, 49]⟩, ⟨#[115, 116, 117, 99, 107, 32, 50, 32, 51, 32, 49, 32, 48, 32, 48]⟩, ⟨#[115, 116, 117, 99, 107, 32, 50, 32, 51]⟩, ⟨#[115, 116, 117, 99, 107, 32, 57, 32, 51, 32, 49]⟩, ⟨#[115, 116, 117, 99, 107, 32, 50, 32, 51, 32, 49, 32, 48, 32, 50]⟩, ⟨#[115, 116, 117, 99, 107, 32, 50, 32, 51, 32, 51]⟩]
theorem linG4_ok : ∀ x ∈ linG4, LinP x := by unfold LinP; decide
def linG5 : List ByteArray := [⟨#[113, 117, 101, 117, 101, 32, 48, 32, 53, 32, 49, 32, 49, 32, 53, 32, 50, 32, 50, 32, 53, 32, 48]⟩, ⟨#[113, 117, 101, 117, 101, 32, 48, 32, 53, 32, 49]⟩, ⟨#[113, 117, 101, 117, 101, 32, 48, 32, 53]⟩, ⟨#[113, 117, 101, 117, 101, 32, 48, 32, 48, 32, 48]⟩, ⟨#[113, 117, 101, 117, 101]⟩, ⟨#[113, 117, 101, 117, 101, 32, 49, 32, 50, 32, 120]⟩]
theorem linG5_ok : ∀ x ∈ linG5, LinP x := by unfold LinP; decide
def linG6 : List ByteArray := [⟨#[101, 110, 116, 101, 114, 32, 51, 32, 115, 101, 110, 116, 32, 53, 48, 48]⟩, ⟨#[101, 110, 116, 101, 114, 32, 52, 32, 115, 101, 110, 116, 32, 45, 50, 48]⟩, ⟨#[101, 110, 116, 101, 114, 32, 50, 32, 108, 111, 115, 116, 32, 49]⟩, ⟨#[101, 110, 116, 101, 114, 32, 57, 32, 76, 111, 115, 116, 32, 49]⟩, ⟨#[108, 111, 103]⟩, ⟨#[108, 111, 103, 32, 49]⟩, ⟨#[]⟩, ⟨#[98, 111, 111, 116]⟩]
theorem linG6_ok : ∀ x ∈ linG6, LinP x := by unfold LinP; decide
set_option maxRecDepth 100000 in
set_option maxHeartbeats 1000000 in
theorem l28Line_any (g k : Nat) (w : World) (h : Src g k w) (hk : k ≤ 10000000000) :
    Calls Tryz.prog 25 #[.pointer (some ⟨g, 0, none⟩)] w fun e w' => ∃ s, e = .returned (.string s) ∧ LinP s ∧ Src g (k + 4) w' ∧ Only g (g + 1) w w' := by
  go_enter Tryz.func25, Tryz.ntmps25
  go_wp2_with fail
  refine (pick_any g k 7 _ h (by omega) ⟨by omega, by omega⟩).mono ?_
  rintro e w1 ⟨x, rfl, hx, s1, o1⟩
  have hlt := hx.lt (by omega)
  have hx0 := hx.1
  have HO := Lib.hid o1
  clear hx h o1
  have hs := s1.lt
  rcases (by omega : x = 0 ∨ x = 1 ∨ x = 2 ∨ x = 3 ∨ x = 4 ∨ x = 5 ∨ x = 6) with rfl | rfl | rfl | rfl | rfl | rfl | rfl
  · go_wp2_with fail
    refine (text_any g _ w1.heap.size 10 9 linG0 _ (s1.alloc _) (by omega) (Blk.new w1 _ _) rfl (by omega) (by omega) hs).mono ?_
    rintro e w2 ⟨s, rfl, hl, s2, o2⟩
    have HL := Lib.hid (linG0_ok s hl)
    clear hl
    go_wp2
    go_ret
    exact ⟨s, rfl, HL.out, s2.more (by omega), (HO.out.alloc _).trans o2⟩
  · go_wp2_with fail
    refine (text_any g _ w1.heap.size 7 9 linG1 _ (s1.alloc _) (by omega) (Blk.new w1 _ _) rfl (by omega) (by omega) hs).mono ?_
    rintro e w2 ⟨s, rfl, hl, s2, o2⟩
    have HL := Lib.hid (linG1_ok s hl)
    clear hl
    go_wp2
    go_ret
    exact ⟨s, rfl, HL.out, s2.more (by omega), (HO.out.alloc _).trans o2⟩
  · go_wp2_with fail
    refine (text_any g _ w1.heap.size 8 9 linG2 _ (s1.alloc _) (by omega) (Blk.new w1 _ _) rfl (by omega) (by omega) hs).mono ?_
    rintro e w2 ⟨s, rfl, hl, s2, o2⟩
    have HL := Lib.hid (linG2_ok s hl)
    clear hl
    go_wp2
    go_ret
    exact ⟨s, rfl, HL.out, s2.more (by omega), (HO.out.alloc _).trans o2⟩
  · go_wp2_with fail
    refine (text_any g _ w1.heap.size 8 9 linG3 _ (s1.alloc _) (by omega) (Blk.new w1 _ _) rfl (by omega) (by omega) hs).mono ?_
    rintro e w2 ⟨s, rfl, hl, s2, o2⟩
    have HL := Lib.hid (linG3_ok s hl)
    clear hl
    go_wp2
    go_ret
    exact ⟨s, rfl, HL.out, s2.more (by omega), (HO.out.alloc _).trans o2⟩
  · go_wp2_with fail
    refine (text_any g _ w1.heap.size 11 9 linG4 _ (s1.alloc _) (by omega) (Blk.new w1 _ _) rfl (by omega) (by omega) hs).mono ?_
    rintro e w2 ⟨s, rfl, hl, s2, o2⟩
    have HL := Lib.hid (linG4_ok s hl)
    clear hl
    go_wp2
    go_ret
    exact ⟨s, rfl, HL.out, s2.more (by omega), (HO.out.alloc _).trans o2⟩
  · go_wp2_with fail
    refine (text_any g _ w1.heap.size 6 9 linG5 _ (s1.alloc _) (by omega) (Blk.new w1 _ _) rfl (by omega) (by omega) hs).mono ?_
    rintro e w2 ⟨s, rfl, hl, s2, o2⟩
    have HL := Lib.hid (linG5_ok s hl)
    clear hl
    go_wp2
    go_ret
    exact ⟨s, rfl, HL.out, s2.more (by omega), (HO.out.alloc _).trans o2⟩
  · go_wp2_with fail
    refine (text_any g _ w1.heap.size 8 9 linG6 _ (s1.alloc _) (by omega) (Blk.new w1 _ _) rfl (by omega) (by omega) hs).mono ?_
    rintro e w2 ⟨s, rfl, hl, s2, o2⟩
    have HL := Lib.hid (linG6_ok s hl)
    clear hl
    go_wp2
    go_ret
    exact ⟨s, rfl, HL.out, s2.more (by omega), (HO.out.alloc _).trans o2⟩
/-- Lines that were drawn. -/
def LnsDrawn (w : World) (e : Ending) (w' : World) : Prop := ∃ (l : List ByteArray) (A : Option Addr) (d : Nat), e = .returned (.slice A l.length d) ∧ l.length ≤ 8 ∧ (∀ x ∈ l, LinP x) ∧ Sl w' w.heap.size w'.heap.size 9 1 A l.length d (strs l) ∧ Below w.heap.size w w'
set_option maxRecDepth 100000 in
set_option maxHeartbeats 1000000 in
theorem a2Lines_any (A : Option Addr) (n c : Nat) (bs : List Int) (w : World) (h : Reads w w.heap.size 1 A n (byts bs)) (hb : ∀ x ∈ bs, Byt x) (hn : n ≤ 9223372036854775807) :
    Calls Tryz.prog 7 #[.slice A n c] w fun e w' => LnsDrawn w e w' := by
  have HH := Lib.hid h
  have HB := Lib.hid hb
  clear h hb
  go_enter Tryz.func7, Tryz.ntmps7
  go_wp2_with fail
  refine (l00From_any A n c bs _ HH.out HB.out hn).mono ?_
  rintro e w1 ⟨rfl, s1, b1, z1⟩
  have sl0 := Sl.made w1 9 1
  have HS0 := Lib.hid sl0
  obtain ⟨u, hu⟩ : ∃ y, w1.alloc (.cells #[] 9) = y := ⟨_, rfl⟩
  have su : Src w.heap.size 0 u := by rw [← hu]; exact s1.alloc _
  have slu : Sl u w1.heap.size u.heap.size 9 1 (some ⟨w1.heap.size, 0, none⟩) 0 0 [] := by rw [← hu]; exact (Sl.made w1 9 1).wide (Nat.le_refl _) (by simp)
  have bu : Below w.heap.size w u := b1.trans (by rw [← hu]; exact (Below.refl _ _).alloc (by omega) _)
  have zu : w.heap.size < w1.heap.size := z1
  have HSU := Lib.hid slu
  have HBU := Lib.hid bu
  clear sl0 slu bu s1 b1 z1
  go_wp2_with fail
  refine (pick_any w.heap.size 0 9 _ su (by omega) ⟨by omega, by omega⟩).mono ?_
  rintro e w2 ⟨x, rfl, hx, s2, o2⟩
  have hlt := hx.lt (by omega)
  have hx0 := hx.1
  have HS2 := Lib.hid ((HSU.out.apart o2 (.inr (by omega))).wide (Nat.le_refl _) o2.size)
  have HB2 := Lib.hid (HBU.out.trans (o2.below (Nat.le_refl _) (by have := HBU.out.size; omega)))
  have HC2 := Lib.hid s2
  have hZ2 : w1.heap.size ≤ w2.heap.size := by have := o2.size; rw [← hu] at this; simp at this; omega
  clear hx su o2 s2 hu
  go_wp2_with fail
  go_loopw [4, 5] (fun o i wr => ∃ (l : List ByteArray) (A' : Option Addr) (d q : Nat), l.length + q ≤ 8 ∧ i = .int .i64 (q : Int) ∧ o = .slice A' l.length d ∧ (∀ y ∈ l, LinP y) ∧ Sl wr w1.heap.size wr.heap.size 9 1 A' l.length d (strs l) ∧ Src w.heap.size (2 + 4 * l.length) wr ∧ Below w.heap.size w wr ∧ w1.heap.size ≤ wr.heap.size) (fun _ i _ => (RowKit.intOf i).toNat)
  case atStart =>
    obtain ⟨q, rfl⟩ := Int.eq_ofNat_of_zero_le hx0
    exact ⟨[], _, _, q, by simp; omega, rfl, rfl, fun y hy => (by cases hy), HS2.out, HC2.out.more (by omega), HB2.out, hZ2⟩
  case round =>
    obtain ⟨l, A', d, q, hlq, rfl, rfl, hl, hsl, hsr, hbel, hwr⟩ := hrel
    have HL := Lib.hid hl
    have HSL := Lib.hid hsl
    have HBR := Lib.hid hbel
    clear hl hsl hbel
    by_cases hq : 0 < q
    · have hqi : (0 : Int) < q := by omega
      go_wp2_with fail
      refine (l28Line_any w.heap.size _ _ hsr (by omega)).mono ?_
      rintro e w3 ⟨s, rfl, hs, s3, o3⟩
      have HSS := Lib.hid hs
      have HSL3 := Lib.hid ((HSL.out.apart o3 (.inr (by omega))).wide (Nat.le_refl _) o3.size)
      have HB3 := Lib.hid (HBR.out.trans (o3.below (Nat.le_refl _) HBR.out.size))
      have HS3 := Lib.hid s3
      have hz3 : w1.heap.size ≤ w3.heap.size := Nat.le_trans hwr o3.size
      clear hs o3 s3 hsr
      go_wp2_with (at_builtin; refine wpList_oneF rfl _ _ 24 rfl 9 _ 1 16 Tryz.underlying24 info_str9 rfl (by decide) (by decide) HSL3.out hz3 rfl [.string s] w3.heap.size rfl rfl rfl (fun u hu => by simp at hu; subst hu; rfl) (by omega) ?_; intro A7 d7 w9 hs9 b9 z9 f9 k9; have HS9 := Lib.hid hs9; have HB9 := Lib.hid b9; have HZ9 := Lib.hid z9; clear hs9 b9 z9 f9 k9)
      go_roundw
      case rel => exact ⟨l ++ [s], A7, d7, q - 1, by simp; omega, by go_num, by simp, fun y hy => by
          rcases List.mem_append.1 hy with hy | hy
          · exact HL.out y hy
          · rw [List.mem_singleton] at hy; subst hy; exact HSS.out, by rw [strs_snoc9]; simpa using HS9.out, (HS3.out.below HB9.out (by omega)).more (by simp; omega), HB3.out.trans (HB9.out.mono (by omega)), by have := HZ9.out; omega⟩
      case measure => simp [RowKit.intOf]; omega
    · obtain rfl : q = 0 := by omega
      go_wp2
      go_ret
      exact ⟨l, A', d, rfl, by omega, HL.out, HSL.out.wide (by omega) (Nat.le_refl _), HBR.out⟩
end Go.Proofs.YtjalgpioklcbfaaGreatDoor
namespace Go.Proofs.YtjalgpioklcbfaaGreatDoor
open Go.RowKit Go.Lib

theorem at0_get {l : List Int} {i : Nat} (h : i < l.length) : l[i]? = some (at0 l (i : Int)) := by
  unfold at0
  rw [Int.toNat_natCast, List.getD_eq_getElem?_getD, List.getElem?_eq_getElem h]; rfl
theorem Blk.intAt {w : World} {g : Nat} {l : List Int} (h : Blk w g 2 (ints l).toArray) {i : Nat} (hi : i < l.length) : w.cell? ⟨g, i, none⟩ = some (.int .i64 (at0 l (i : Int))) := by
  rw [h.cell, List.getElem?_toArray]
  exact ints_get (at0_get hi)
theorem relax1_keep1 {L : List Int} {t : Tb} (h : at0 L t.to_ < 0) : relax1 L t = L := by unfold relax1; rw [if_pos h]
theorem relax1_keep2 {L : List Int} {t : Tb} (h : ¬ at0 L t.to_ < 0) (h2 : ¬ at0 L t.from_ < 0) (h3 : ¬ at0 L t.to_ + t.len < at0 L t.from_) : relax1 L t = L := by unfold relax1; rw [if_neg h, if_neg (by omega)]
theorem relax1_set {L : List Int} {t : Tb} (h : ¬ at0 L t.to_ < 0) (h2 : at0 L t.from_ < 0 ∨ at0 L t.to_ + t.len < at0 L t.from_) : relax1 L t = L.set t.from_.toNat (at0 L t.to_ + t.len) := by unfold relax1; rw [if_neg h, if_pos h2]
theorem foldl_snoc {l : List Tb} {k : Nat} {t : Tb} (h : l[k]? = some t) (x : List Int) : (l.take (k + 1)).foldl relax1 x = relax1 ((l.take k).foldl relax1 x) t := by
  rw [List.take_add_one, h, Option.toList_some, List.foldl_append]; rfl
set_option maxHeartbeats 4000000 in
set_option maxRecDepth 100000 in
theorem distances_any (A : Option Addr) (n c B : Nat) (x : Nt) (to_ : Nat) (w : World) (h : Reads w B 3 A n (tbs x.tubes)) (hB : B ≤ w.heap.size) (ho : okNt x = true) (h1 : (to_ : Int) < x.sta) :
    Calls Tryz.prog 144 #[.agg #[.int .i64 x.sta, .slice A n c], .int .i64 (to_ : Int), .int .i64 (-1)] w fun e w' => ∃ g, e = .returned (.slice (some ⟨g, 0, none⟩) x.sta.toNat x.sta.toNat) ∧ Blk w' g 2 (ints (farF x to_)).toArray ∧ w.heap.size ≤ g ∧ Below w.heap.size w w' := by
  obtain ⟨k1, k2, k3, k4⟩ := okNt_tubes ho
  obtain ⟨s, hs⟩ := Int.eq_ofNat_of_zero_le (show 0 ≤ x.sta by omega)
  have hs' : x.sta.toNat = s := by omega
  have HF := Lib.hid (show farF x to_ = iterF x.tubes s (far0 s to_) by unfold farF; rw [hs'])
  have HX4 := Lib.hid k4
  rw [hs'] at HX4
  rw [hs', hs]
  have hln : x.tubes.length = n := tbs_len h
  have HL := Lib.hid hln
  have hn24 : n ≤ 24 := by omega
  have hs10 : s ≤ 10 := by omega
  have hs2 : 2 ≤ s := by omega
  have hto : to_ < s := by omega
  have hx24 := Lib.hid k3
  obtain ⟨W, hW, y0, hb⟩ : ∃ W, W = w.alloc (.cells #[.int .i64 (s : Int), .slice A n c] 28) ∧ Blk W w.heap.size 28 #[.int .i64 (s : Int), .slice A n c] ∧ Below w.heap.size w W := ⟨_, rfl, Blk.new _ _ _, (Below.refl _ _).alloc (Nat.le_refl _) _⟩
  have HW := Lib.hid hW
  have HB0 := Lib.hid hb
  have HY0 := Lib.hid y0
  have HR := Lib.hid h
  clear hW hb y0 h k4 k3 k1 k2 hs hs' hln ho h1
  go_enter Tryz.func144, Tryz.ntmps144
  go_upto_region 1 with fail
  rw [← HW.out]
  obtain ⟨u1, hu1⟩ : ∃ y, W.alloc (.cells #[.int .i64 (-1)] 2) = y := ⟨_, rfl⟩
  have yv : Blk u1 W.heap.size 2 #[.int .i64 (-1)] := by rw [← hu1]; exact Blk.new _ _ _
  have bu1 : Below W.heap.size W u1 := by rw [← hu1]; exact (Below.refl _ _).alloc (Nat.le_refl _) _
  have cW := (HY0.out.on bu1).cellAt 0 (by simp)
  simp only [List.getElem_toArray, List.getElem_cons_zero] at cW
  go_wp2_with fail
  refine (repeatI_any s W.heap.size 1 (-1) u1 (by omega) (by omega) (yv.cellAt 0 (by simp))).mono ?_
  rintro e w2 ⟨rfl, y2, b2⟩
  obtain ⟨g, hg⟩ : ∃ q, u1.heap.size = q := ⟨_, rfl⟩
  have hgW : W.heap.size < g := by rw [← hg]; exact yv.lt
  rw [hg] at y2 ⊢
  have HB2 := Lib.hid (bnext (bnext HB0.out bu1 (Nat.le_refl _)) b2 (Nat.le_refl _))
  have HY2 := Lib.hid ((HY0.out.on bu1).on b2)
  have H2 := Lib.hid y2
  have c2 := y2.intAt (i := to_) (by simpa using hto)
  have f2 := y2.frozen to_
  have hwg : w.heap.size < g := by have := HY0.out.lt; omega
  have HWG := Lib.hid hwg
  clear hu1 yv bu1 cW y2 b2 hg
  have hto0 : (0 : Int) ≤ to_ := by omega
  have hts : (to_ : Int) < s := by omega
  go_upto_region 3 with fail
  obtain ⟨w3, hw3⟩ : ∃ y, w2.setCell ⟨g, to_, none⟩ (.int .i64 0) = y := ⟨_, rfl⟩
  have y3 : Blk w3 g 2 (ints (far0 s to_)).toArray := by
    rw [← hw3]
    exact ints_set H2.out to_ 0
  have o3 : Only g (g + 1) w2 w3 := by rw [← hw3]; exact (Only.refl g (g + 1) w2).setCell (p := ⟨g, to_, none⟩) (Nat.le_refl _) (Nat.lt_succ_self _) _
  rw [hw3]
  have HB3 := Lib.hid (bonly HB2.out o3 (by omega) (Nat.le_refl _))
  have HY3 := Lib.hid (HY2.out.keepOnly o3 (.inl hwg))
  have H3 := Lib.hid y3
  have hlab0 := far0_lab (n := s) (l := x.tubes) hto0 hts
  have HLAB := Lib.hid hlab0
  clear hw3 y3 o3 c2 f2 hlab0
  have cs := HY3.out.cellAt 0 (by simp)
  simp only [List.getElem_toArray, List.getElem_cons_zero] at cs
  go_wp2_with fail
  go_loopw [20] (fun i wr => ∃ k : Nat, k ≤ s ∧ i = .int .i64 k ∧ Blk wr g 2 (ints (iterF x.tubes k (far0 s to_))).toArray ∧ Only g (g + 1) w3 wr) (fun i _ => s - (RowKit.intOf i).toNat)
  case atStart => exact ⟨0, Nat.zero_le _, rfl, H3.out, Only.refl _ _ _⟩
  case round =>
    obtain ⟨k, hk, rfl, hy, ho⟩ := hrel
    have HY := Lib.hid hy
    have HO := Lib.hid ho
    have HBr := Lib.hid (bonly HB3.out ho (by have := HWG.out; omega) (Nat.le_refl _))
    have HYb := Lib.hid (HY3.out.keepOnly ho (.inl HWG.out))
    clear hy ho cs
    by_cases hlt : k < s
    · have hk0 : (0 : Int) ≤ k := by omega
      have hks : (k : Int) < s := by omega
      have hks' : (k : Int) ≤ 10 := by omega
      have cA := HYb.out.cellAt 1 (by simp)
      simp only [List.getElem_toArray, List.getElem_cons_zero, List.getElem_cons_succ] at cA
      have hnat := HLAB.out
      have HLk := Lib.hid (Lab.iter hto0 HX4.out k HLAB.out)
      have HBk := Lib.hid (iterF_bd (l := x.tubes) hto0 hts HX4.out hx24.out k)
      obtain ⟨L, hL⟩ : ∃ L, iterF x.tubes k (far0 s to_) = L := ⟨_, rfl⟩
      have HEL := Lib.hid hL
      rw [hL] at HY HLk HBk
      clear hL hnat
      go_wp2_with fail
      go_loopw [25] (fun i wq => ∃ j : Nat, j ≤ n ∧ i = .int .i64 j ∧ Blk wq g 2 (ints ((x.tubes.take j).foldl relax1 L)).toArray ∧ Only g (g + 1) wr wq) (fun i _ => n - (RowKit.intOf i).toNat)
      case atStart => exact ⟨0, Nat.zero_le _, rfl, by simpa using HY.out, Only.refl _ _ _⟩
      case round =>
        rename World => wq
        obtain ⟨j, hj, rfl, hy, ho⟩ := hrel
        have HQ := Lib.hid hy
        have HOq := Lib.hid ho
        have HBq := Lib.hid (bonly HBr.out ho (by have := HWG.out; omega) (Nat.le_refl _))
        clear hy ho cA
        by_cases hjt : j < n
        · obtain ⟨t, b, off, he, rfl, hb, q0, q1, q2⟩ := tb_at (HR.out.on hB HBq.out) hjt
          have HE := Lib.hid he
          obtain ⟨t1, t2, t3, t4, t5, t6, t7⟩ := HX4.out t (List.mem_of_getElem? he)
          obtain ⟨a, ha⟩ := Int.eq_ofNat_of_zero_le t1
          obtain ⟨d, hd⟩ := Int.eq_ofNat_of_zero_le t3
          have hac : a < s := by omega
          have hdc : d < s := by omega
          have HLq := Lib.hid (foldl_lab hto0 HX4.out (x.tubes.take j) L (fun t ht => List.mem_of_mem_take ht) HLk.out)
          have HBl := Lib.hid (foldl_bd (x.tubes.take j) L (48000 * k) HLk.out.len (fun t ht => HX4.out t (List.mem_of_mem_take ht)) HBk.out (by omega))
          have HST := Lib.hid (foldl_snoc (x := L) he)
          obtain ⟨M, hM⟩ : ∃ M, (x.tubes.take j).foldl relax1 L = M := ⟨_, rfl⟩
          rw [hM] at HQ HLq HBl HST
          have hML : M.length = s := HLq.out.len
          have va := HQ.out.intAt (i := a) (by omega)
          have vd := HQ.out.intAt (i := d) (by omega)
          have fa := HQ.out.frozen a
          have ba := HBl.out a (by omega)
          have bd := HBl.out d (by omega)
          have sd := HLq.out.sign d (by omega)
          have htk : (x.tubes.take j).length ≤ 24 := by rw [List.length_take]; have := hx24.out; omega
          have HEA := Lib.hid ha
          have HED := Lib.hid hd
          rw [ha] at q0
          rw [hd] at q1
          obtain ⟨pa, hpa⟩ : ∃ q, at0 M (a : Int) = q := ⟨_, rfl⟩
          obtain ⟨pd, hpd⟩ : ∃ q, at0 M (d : Int) = q := ⟨_, rfl⟩
          rw [hpa] at va ba
          rw [hpd] at vd bd sd
          have HPA := Lib.hid hpa
          have HPD := Lib.hid hpd
          obtain ⟨ln, hln⟩ : ∃ q, t.len = q := ⟨_, rfl⟩
          have HLN := Lib.hid hln
          rw [hln] at q2 t6 t7
          have hj0 : (0 : Int) ≤ j := by omega
          have hjn : (j : Int) < n := by omega
          have hjm : ((j : Int) == -1) = false := by rw [beq_eq_false_iff_ne]; omega
          have ha0 : (0 : Int) ≤ a := by omega
          have has : (a : Int) < s := by omega
          have hd0 : (0 : Int) ≤ d := by omega
          have hds : (d : Int) < s := by omega
          have hpdb : pd ≤ 1000000 := by omega
          have hpdm : -1 ≤ pd := by omega
          clear he ha hd hM hML hpa hpd hln t1 t2 t3 t4 t5 bd ba sd htk
          go_upto_region 8 with fail
          obtain ⟨u, hu⟩ : ∃ y, wq.alloc (.cells #[.int .i64 (a : Int), .int .i64 (d : Int), .int .i64 ln] 101) = y := ⟨_, rfl⟩
          have yu : Blk u wq.heap.size 101 #[.int .i64 (a : Int), .int .i64 (d : Int), .int .i64 ln] := by rw [← hu]; exact Blk.new _ _ _
          have bu : Below wq.heap.size wq u := by rw [← hu]; exact (Below.refl _ _).alloc (Nat.le_refl _) _
          rw [hu]
          have p0 := yu.cellAt 0 (by simp)
          have p1 := yu.cellAt 1 (by simp)
          have p2 := yu.cellAt 2 (by simp)
          simp only [List.getElem_toArray, List.getElem_cons_zero, List.getElem_cons_succ] at p0 p1 p2
          replace va := cell_on bu va
          replace vd := cell_on bu vd
          have HOu := Lib.hid (HOq.out.trans (Only.of_below bu _ _))
          have HQu := Lib.hid (HQ.out.on bu)
          have fau := HQu.out.frozen a
          clear hu bu q0 q1 q2 fa yu
          by_cases hp : pd < 0
          · have hpt : decide (pd < 0) = true := decide_eq_true hp
            have HK := Lib.hid (show relax1 M t = M from relax1_keep1 (by rw [HED.out, HPD.out]; omega))
            go_wp2
            go_roundw
            case rel => exact ⟨j + 1, by omega, by go_num, by rw [HST.out, HK.out]; exact HQu.out, HOu.out⟩
            case measure => simp [RowKit.intOf]; omega
          · have hpt : decide (pd < 0) = false := decide_eq_false hp
            have hwr : IntKind.i64.wrap (pd + ln) = pd + ln := by
              unfold IntKind.wrap; simp [IntKind.bits, IntKind.signed]; omega
            go_wp2_with fail
            go_quiet (fail)
            rename_i nq
            obtain ⟨v, hv⟩ : ∃ y, u.drewN nq = y := ⟨_, rfl⟩
            have HQv := Lib.hid (show Blk v g 2 (ints M).toArray by rw [← hv]; exact HQu.out)
            have HOv := Lib.hid (show Only g (g + 1) wr v by rw [← hv]; exact HOu.out.drewN _)
            change (u.drewN nq).cell? _ = _ at p0
            rw [hv] at p0
            change (u.drewN nq).cell? _ = _ at p1
            rw [hv] at p1
            change (u.drewN nq).cell? _ = _ at p2
            rw [hv] at p2
            change (u.drewN nq).cell? _ = _ at va
            rw [hv] at va
            change (u.drewN nq).cell? _ = _ at vd
            rw [hv] at vd
            change (u.drewN nq).frozen? _ = _ at fau
            rw [hv] at fau
            rw [hv]
            clear hv
            by_cases hpa : pa < 0
            · have hat : decide (pa < 0) = true := decide_eq_true hpa
              have HK := Lib.hid (show relax1 M t = M.set a (pd + ln) by rw [relax1_set (by rw [HED.out, HPD.out]; omega) (by rw [HEA.out, HED.out, HPA.out, HPD.out, HLN.out]; omega), HED.out, HPD.out, HLN.out, HEA.out]; rfl)
              go_wp2
              go_roundw
              case rel => exact ⟨j + 1, by omega, by go_num, by rw [HST.out, HK.out]; exact ints_set HQv.out a _, HOv.out.setCell (p := ⟨g, a, none⟩) (Nat.le_refl _) (Nat.lt_succ_self _) _⟩
              case measure => simp [RowKit.intOf]; omega
            · have hat : decide (pa < 0) = false := decide_eq_false hpa
              by_cases hlt2 : pd + ln < pa
              · have hbt : decide (pd + ln < pa) = true := decide_eq_true hlt2
                have HK := Lib.hid (show relax1 M t = M.set a (pd + ln) by rw [relax1_set (by rw [HED.out, HPD.out]; omega) (by rw [HEA.out, HED.out, HPA.out, HPD.out, HLN.out]; omega), HED.out, HPD.out, HLN.out, HEA.out]; rfl)
                go_wp2
                go_roundw
                case rel => exact ⟨j + 1, by omega, by go_num, by rw [HST.out, HK.out]; exact ints_set HQv.out a _, HOv.out.setCell (p := ⟨g, a, none⟩) (Nat.le_refl _) (Nat.lt_succ_self _) _⟩
                case measure => simp [RowKit.intOf]; omega
              · have hbt : decide (pd + ln < pa) = false := decide_eq_false hlt2
                have HK := Lib.hid (show relax1 M t = M from relax1_keep2 (by rw [HED.out, HPD.out]; omega) (by rw [HEA.out, HPA.out]; omega) (by rw [HEA.out, HED.out, HPA.out, HPD.out, HLN.out]; omega))
                go_wp2
                go_roundw
                case rel => exact ⟨j + 1, by omega, by go_num, by rw [HST.out, HK.out]; exact HQv.out, HOv.out⟩
                case measure => simp [RowKit.intOf]; omega
        · obtain rfl : j = n := by omega
          have HFL := Lib.hid (show (x.tubes.take j).foldl relax1 L = iterF x.tubes (k + 1) (far0 s to_) by
            rw [← HL.out, List.take_length, iterF_succ, HEL.out]; rfl)
          go_wp2
          go_roundw
          case rel => exact ⟨k + 1, by omega, by go_num, by rw [← HFL.out]; exact HQ.out, HO.out.trans HOq.out⟩
          case measure => simp [RowKit.intOf]; omega
    · obtain rfl : k = s := by omega
      go_wp2
      go_ret
      exact ⟨g, rfl, by rw [HF.out]; exact HY.out, by have := HWG.out; omega, HBr.out⟩
end Go.Proofs.YtjalgpioklcbfaaGreatDoor
