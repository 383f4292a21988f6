/- The net: stations and tubes. -/
import Derived.Test.YtgcepomehgedfaaGreatDoorDkF
set_option linter.unusedVariables false
namespace Go.Proofs.YtgcepomehgedfaaGreatDoor
open Go.RowKit Go.ChangeShapes Go.WideShapes Go.Deep

structure Nt where
  sta : Int
  tubes : List Tb
def sameNt (x y : Nt) : Bool := x.sta == y.sta && sameL sameTb x.tubes y.tubes
theorem sameNt_refl (x : Nt) : sameNt x x = true := by simp [sameNt, sameL_refl sameTb_refl]
/-- Two blocks made: how they lie. -/
theorem two_al (w : World) (a b : Array Value) (ta tb : TypeId) : ∃ W, W = (w.alloc (.cells a ta)).alloc (.cells b tb) ∧ W.heap.size = w.heap.size + 1 + 1 ∧ Blk W w.heap.size ta a ∧ Blk W (w.heap.size + 1) tb b ∧ Below w.heap.size w W := by
  refine ⟨_, rfl, by simp, (Blk.new _ _ _).alloc _, ?_, ((Below.refl _ _).alloc (Nat.le_refl _) _).alloc (by simp) _⟩
  have := Blk.new (w.alloc (.cells a ta)) tb b
  rwa [size_al] at this

theorem szNet_any (A : Option Addr) (n c : Nat) (st q : Int) (w : World) (hq0 : 0 ≤ q) (hq : q ≤ 1048576) (hn : n ≤ 9223372036854775807) :
    Calls Tryz.prog 9 #[.agg #[.int .i64 st, .slice A n c], .int .i64 q] w fun e w' => ∃ r : Int, e = .returned (.int .i64 r) ∧ Below w.heap.size w w' ∧ (r < 0 ∨ (0 ≤ r ∧ r ≤ q ∧ (n : Int) ≤ q)) := by
  go_enter Tryz.func9, Tryz.ntmps9
  go_wp2_with fail
  refine (szTubeS_any A n c q _ hq0 hq hn).mono ?_
  rintro e w1 ⟨rfl, r, rfl, hr⟩
  rcases hr with hr | ⟨h0, h1, h2⟩
  · go_wp2
    go_ret
    exact ⟨_, rfl, (Below.refl _ _).alloc (Nat.le_refl _) _, .inl (by omega)⟩
  · go_wp2
    go_ret
    exact ⟨_, rfl, (Below.refl _ _).alloc (Nat.le_refl _) _, .inr ⟨h0, h1, h2⟩⟩

theorem toNet_any (A : Option Addr) (n c B : Nat) (x : Nt) (w : World) (h : Reads w B 3 A n (tbs x.tubes)) (hB : B ≤ w.heap.size) (hn : n ≤ 1048576) :
    Calls Tryz.prog 14 #[.agg #[.int .i64 x.sta, .slice A n c]] w fun e w' => ∃ g, e = .returned (.agg #[.int .i64 x.sta, .slice (some ⟨g, 0, none⟩) n n]) ∧ Sl w' w.heap.size w'.heap.size 79 3 (some ⟨g, 0, none⟩) n n (tbs x.tubes) ∧ Below w.heap.size w w' := by
  obtain ⟨V, hV, hs, k0, k1, k2, hb⟩ := three_al w #[.int .i64 x.sta, .slice A n c] #[.int .i64 0, .slice none 0 0] #[.int .i64 x.sta, .slice none 0 0] 24 33 33
  have HV := Lib.hid hV
  have HS := Lib.hid hs
  have HK1 := Lib.hid k1
  have HK2 := Lib.hid k2
  have HB := Lib.hid hb
  clear hV hs k0 k1 k2 hb
  go_enter Tryz.func14, Tryz.ntmps14
  go_wp2_with fail
  rw [← HV.out]
  refine (toTubeS_any A n c B x.tubes V (h.on hB HB.out) (by have := HS.out; omega) hn).mono ?_
  rintro e w1 ⟨g, rfl, s1, b1⟩
  have a1 := (HK2.out.on b1).cellAt 0 (by simp)
  have f1 := (HK2.out.on b1).frozen 0
  have a2 := (HK2.out.on b1).cellAt 1 (by simp)
  have f2 := (HK2.out.on b1).frozen 1
  have a3 := (HK1.out.on b1).cellAt 0 (by simp)
  have f3 := (HK1.out.on b1).frozen 0
  have a4 := (HK1.out.on b1).cellAt 1 (by simp)
  have f4 := (HK1.out.on b1).frozen 1
  have S1 := Lib.hid s1
  have HB1 := Lib.hid b1
  clear s1 b1
  simp only [List.getElem_toArray, List.getElem_cons_zero, List.getElem_cons_succ] at a1 a2 a3 a4
  go_wp2
  obtain ⟨WF, hWF⟩ : ∃ WF, WF = ((w1.setCell ⟨w.heap.size + 1 + 1, 1, none⟩ (.slice (some ⟨g, 0, none⟩) n n)).setCell ⟨w.heap.size + 1, 0, none⟩ (.int .i64 x.sta)).setCell ⟨w.heap.size + 1, 1, none⟩ (.slice (some ⟨g, 0, none⟩) n n) := ⟨_, rfl⟩
  have KF : Blk WF (w.heap.size + 1) 33 #[.int .i64 x.sta, .slice (some ⟨g, 0, none⟩) n n] := by
    rw [hWF]
    exact ((((HK1.out.on HB1.out).far (p := ⟨w.heap.size + 1 + 1, 1, none⟩) (by simp) _).set_ 0 _).set_ 1 _)
  have hO : Only w.heap.size V.heap.size w1 WF := by
    rw [hWF]
    have := HS.out
    exact (((Only.refl _ _ _).setCell (by simp; omega) (by simp; omega) _).setCell (by simp) (by simp; omega) _).setCell (by simp) (by simp; omega) _
  rw [← hWF]
  have r0 := KF.cellAt 0 (by simp)
  have r1 := KF.cellAt 1 (by simp)
  simp only [List.getElem_toArray, List.getElem_cons_zero, List.getElem_cons_succ] at r0 r1
  clear hWF a1 a2 a3 a4 f1 f2 f3 f4
  refine bodyPost_ret (v := .agg #[.int .i64 x.sta, .slice (some ⟨g, 0, none⟩) n n]) (by simp [results, Tryz.results14, go_sem, r0, r1]) rfl ?_
  exact ⟨g, rfl, (S1.out.apart hO (.inr (Nat.le_refl _))).wide (by have := HS.out; omega) hO.size, bonly (bnext HB.out HB1.out (Nat.le_refl _)) hO (Nat.le_refl _) (Nat.le_refl _)⟩

theorem eqNet_same (A A' : Option Addr) (n c c' B : Nat) (x : Nt) (w : World) (h : Reads w B 3 A n (tbs x.tubes)) (h' : Reads w B 3 A' n (tbs x.tubes)) (hB : B ≤ w.heap.size) (hn : n ≤ 1048576) :
    Calls Tryz.prog 19 #[.agg #[.int .i64 x.sta, .slice A n c], .agg #[.int .i64 x.sta, .slice A' n c']] w fun e w' => e = .returned (.bool true) ∧ Below w.heap.size w w' := by
  obtain ⟨W, hW, hs, k0, k1, hb⟩ := two_al w #[.int .i64 x.sta, .slice A n c] #[.int .i64 x.sta, .slice A' n c'] 33 33
  have HW := Lib.hid hW
  have HR := Lib.hid (h.on hB hb)
  have HR' := Lib.hid (h'.on hB hb)
  have HB := Lib.hid hb
  have HS := Lib.hid hs
  clear h h' hb hW hs k0 k1
  go_enter Tryz.func19, Tryz.ntmps19
  go_wp2_with fail
  rw [← HW.out]
  refine (eqTubeS_same A A' n c c' B x.tubes W HR.out HR'.out hn (by have := HS.out; omega)).mono ?_
  rintro e w1 ⟨rfl, b1⟩
  go_wp2
  go_ret
  exact ⟨rfl, bnext HB.out b1 (Nat.le_refl _)⟩

end Go.Proofs.YtgcepomehgedfaaGreatDoor
