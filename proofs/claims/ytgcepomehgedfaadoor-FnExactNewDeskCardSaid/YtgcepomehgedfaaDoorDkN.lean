/- The net: stations and tubes. -/
import Derived.Test.YtgcepomehgedfaaDoorDkF
set_option linter.unusedVariables false
namespace Go.Proofs.YtgcepomehgedfaaDoor
open Go.RowKit Go.ChangeShapes Go.WideShapes Go.Deep

structure Nt where
  sta : Int
  tubes : List Tb
def sameNt (x y : Nt) : Bool := x.sta == y.sta && sameL sameTb x.tubes y.tubes
theorem sameNt_refl (x : Nt) : sameNt x x = true := by simp [sameNt, sameL_refl sameTb_refl]
/-- Two blocks made: how they lie. -/
theorem two_al (w : World) (a b : Array Value) (ta tb : TypeId) : ∃ W, W = (w.alloc (.cells a ta)).alloc (.cells b tb) ∧ W.heap.size = w.heap.size + 1 + 1 ∧ Blk W w.heap.size ta a ∧ Blk W (w.heap.size + 1) tb b ∧ Below w.heap.size w W := by
  refine ⟨_, rfl, by simp, (Blk.new _ _ _).alloc _, ?_, ((Below.refl _ _).alloc (Nat.le_refl _) _).alloc (by simp) _⟩
  have := Blk.new (w.alloc (.cells a ta)) tb b
  rwa [size_al] at this

theorem eqNet_same (A A' : Option Addr) (n c c' B : Nat) (x : Nt) (w : World) (h : Reads w B 3 A n (tbs x.tubes)) (h' : Reads w B 3 A' n (tbs x.tubes)) (hB : B ≤ w.heap.size) (hn : n ≤ 1048576) :
    Calls Tryd.prog 11 #[.agg #[.int .i64 x.sta, .slice A n c], .agg #[.int .i64 x.sta, .slice A' n c']] w fun e w' => e = .returned (.bool true) ∧ Below w.heap.size w w' := by
  obtain ⟨W, hW, hs, k0, k1, hb⟩ := two_al w #[.int .i64 x.sta, .slice A n c] #[.int .i64 x.sta, .slice A' n c'] 24 24
  have HW := Lib.hid hW
  have HR := Lib.hid (h.on hB hb)
  have HR' := Lib.hid (h'.on hB hb)
  have HB := Lib.hid hb
  have HS := Lib.hid hs
  clear h h' hb hW hs k0 k1
  go_enter Tryd.func11, Tryd.ntmps11
  go_wp2_with fail
  rw [← HW.out]
  refine (eqTubeS_same A A' n c c' B x.tubes W HR.out HR'.out hn (by have := HS.out; omega)).mono ?_
  rintro e w1 ⟨rfl, b1⟩
  go_wp2
  go_ret
  exact ⟨rfl, bnext HB.out b1 (Nat.le_refl _)⟩

end Go.Proofs.YtgcepomehgedfaaDoor
