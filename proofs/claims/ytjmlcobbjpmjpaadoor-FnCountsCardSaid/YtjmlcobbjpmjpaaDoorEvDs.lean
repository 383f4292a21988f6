/- What the draws of events give, for whatever code. -/
import Derived.Test.YtjmlcobbjpmjpaaDoorEvDr
set_option linter.unusedVariables false
set_option linter.unusedSimpArgs false
namespace Go.Proofs.YtjmlcobbjpmjpaaDoor
open Go.RowKit

theorem below_of_only {lo hi B : Nat} {w w' : World} (h : Only lo hi w w') (h1 : B ≤ lo) (h2 : B ≤ w.heap.size) : Below B w w' := h.below h1 h2
theorem Sl.low2 {w : World} {lo lo' hi size n c : Nat} {t : TypeId} {A : Option Addr} {xs : List Value} (h : Sl w lo hi t size A n c xs) (h1 : lo' ≤ lo) : Sl w lo' hi t size A n c xs := h.wide h1 (Nat.le_refl _)
set_option maxRecDepth 100000 in
theorem l26Window_any (A : Option Addr) (n c : Nat) (bs : List Int) (w : World) (h : Reads w w.heap.size 1 A n (byts bs)) (hb : ∀ x ∈ bs, Byt x) (hn : n ≤ 9223372036854775807) :
    Calls Tryd.prog 67 #[.slice A n c] w fun e w' => ∃ (l : List Ev) (A' : Option Addr) (d : Nat) (x : Int), e = .returned (.tuple #[.slice A' l.length d, .int .i64 x]) ∧ I64 x ∧ l.length ≤ 201 ∧ Sl w' w.heap.size w'.heap.size 101 2 A' l.length d (evs l) ∧ Below w.heap.size w w' := by
  have HH := Lib.hid h
  have HB := Lib.hid hb
  clear h hb
  go_enter Tryd.func67, Tryd.ntmps67
  go_wp2_with fail
  refine (l00From_any A n c bs _ HH.out HB.out hn).mono ?_
  rintro e w1 ⟨rfl, s1, b1, z1⟩
  go_wp2_with fail
  refine (l26Draw_any _ 0 _ s1 (by omega)).mono ?_
  rintro e w2 ⟨l, A', d, rfl, hl, sl, s2, o2⟩
  have z2 := o2.size
  go_wp2_with fail
  refine (one_any _ _ 8 _ s2 (by omega) ⟨by omega, by omega⟩).mono ?_
  rintro e w3 ⟨b3, rfl, s3, o3⟩
  have z3 := o3.size
  have HO3 := Lib.hid (o2.trans o3)
  have HSL := Lib.hid (sl.apart o3 (Or.inr (by omega)))
  clear sl o2 o3
  rcases b3 with _ | _
  · go_wp2_with fail
    refine (pick_any _ _ 6 _ s3 (by omega) ⟨by omega, by omega⟩).mono ?_
    rintro e w4 ⟨x4, rfl, hx4, s4, o4⟩
    have z4 := o4.size
    have hxa := hx4.1
    have hxb := hx4.2.2.2
    have HX := Lib.hid hx4
    clear hx4
    have HSL2 := Lib.hid ((HSL.out.apart o4 (Or.inr (by omega))).wide (lo' := w.heap.size) (by omega) (hi' := w4.heap.size) (by omega))
    go_wp2
    go_ret2
    exact ⟨l, A', d, 1 + x4, rfl, ⟨by have := HX.out.1; omega, by have := HX.out.2.2.2; omega⟩, hl, HSL2.out, b1.trans ((HO3.out.trans o4).below (Nat.le_refl _) (by omega))⟩
  · go_wp2_with fail
    refine (among_any _ _ w3.heap.size 5 2 [-1, 0, 1, 24, 25] _ (s3.alloc _) (by omega) (Blk.new w3 _ _) rfl (by omega) (by omega) (by omega)).mono ?_
    rintro e w4 ⟨x4, rfl, hx4, s4, o4⟩
    have z4 := o4.size
    simp at z4
    have HX := Lib.hid hx4
    clear hx4
    have HO4 := Lib.hid (HO3.out.trans (((Only.refl _ _ _).alloc (.cells #[.int .i64 (-1), .int .i64 (0), .int .i64 (1), .int .i64 (24), .int .i64 (25)] 2)).trans o4))
    have HSL2 := Lib.hid (((HSL.out.up (.cells #[.int .i64 (-1), .int .i64 (0), .int .i64 (1), .int .i64 (24), .int .i64 (25)] 2)).apart o4 (Or.inr (by omega))).wide (lo' := w.heap.size) (by omega) (hi' := w4.heap.size) (by omega))
    go_wp2
    go_ret2
    exact ⟨l, A', d, x4, rfl, by have := HX.out; simp at this; rcases this with h | h | h | h | h <;> subst h <;> exact ⟨by omega, by omega⟩, hl, HSL2.out, b1.trans (HO4.out.below (Nat.le_refl _) (by omega))⟩

theorem drawMovingCounts_any (A : Option Addr) (n c : Nat) (bs : List Int) (w : World) (h : Reads w w.heap.size 1 A n (byts bs)) (hb : ∀ x ∈ bs, Byt x) (hn : n ≤ 9223372036854775807) :
    Calls Tryd.prog 27 #[.slice A n c] w fun e w' => ∃ (l : List Ev) (A' : Option Addr) (d : Nat) (x : Int), e = .returned (.tuple #[.slice A' l.length d, .int .i64 x]) ∧ I64 x ∧ l.length ≤ 201 ∧ Sl w' w.heap.size w'.heap.size 101 2 A' l.length d (evs l) ∧ Below w.heap.size w w' := by
  have HH := Lib.hid h
  have HB := Lib.hid hb
  clear h hb
  go_enter Tryd.func27, Tryd.ntmps27
  go_wp2_with fail
  refine (l26Window_any A n c bs _ HH.out HB.out hn).mono ?_
  rintro e w1 ⟨l, A', d, x, rfl, hx, hl, s1, b1⟩
  go_wp2
  go_ret2
  exact ⟨l, A', d, x, rfl, hx, hl, s1, b1⟩

end Go.Proofs.YtjmlcobbjpmjpaaDoor
