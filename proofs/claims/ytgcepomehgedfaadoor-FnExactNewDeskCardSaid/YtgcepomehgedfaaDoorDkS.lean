/- Runs: the law's copies and its comparison. -/
import Derived.Test.YtgcepomehgedfaaDoorDkR
import Derived.Deep.RegionHeld3
import Derived.BigQuiet
set_option linter.unusedVariables false
namespace Go.Proofs.YtgcepomehgedfaaDoor
open Go.RowKit

theorem size_al (w : World) (o : Obj) : (w.alloc o).heap.size = w.heap.size + 1 := by simp
/-- Three blocks made: how they lie. -/
theorem three_al (w : World) (a b c : Array Value) (ta tb tc : TypeId) : ∃ W, W = ((w.alloc (.cells a ta)).alloc (.cells b tb)).alloc (.cells c tc) ∧ W.heap.size = w.heap.size + 1 + 1 + 1 ∧ Blk W w.heap.size ta a ∧ Blk W (w.heap.size + 1) tb b ∧ Blk W (w.heap.size + 1 + 1) tc c ∧ Below w.heap.size w W := by
  refine ⟨_, rfl, by simp, ((Blk.new _ _ _).alloc _).alloc _, ?_, ?_, (((Below.refl _ _).alloc (Nat.le_refl _) _).alloc (by simp) _).alloc (by simp; omega) _⟩
  · have := (Blk.new (w.alloc (.cells a ta)) tb b).alloc (.cells c tc)
    rwa [size_al] at this
  · have := Blk.new ((w.alloc (.cells a ta)).alloc (.cells b tb)) tc c
    rwa [size_al, size_al] at this

theorem make_rn (n : Nat) (hn : n ≤ 1048576) : ∀ w : World, (Instr.makeSlice 26 (.int .i64 (n : Int)) (.int .i64 (n : Int))).run Tryd.prog w = .ok (.slice (some ⟨w.heap.size, 0, none⟩) n n) (w.alloc (.cells (madeCells #[.slice none 0 0, .int .i64 0] (n * 2)) 54)) :=
  run_make_small 26 54 (.agg #[.slice none 0 0, .int .i64 0]) 2 32 Tryd.underlying26 (by kernel_rfl) (by decide) n hn
/-- How far the copying has come: the heads of the first k runs stand, their ways lie from lo on. -/
def RunsTo (w : World) (lo : Nat) (rs : List Rn) (cs : Array Value) (k : Nat) : Prop :=
  ∃ hs : List RnH, hs.length = k ∧ Fill cs (rns hs) (k * 2) ∧ ∀ (j : Nat) (h : RnH) (r : Rn), hs[j]? = some h → rs[j]? = some r → h.st = r.st ∧ h.m ≤ 9223372036854775807 ∧ Sl w lo w.heap.size 2 1 h.A h.m h.c (ints r.way)
theorem RunsTo.zero (w : World) (lo : Nat) (rs : List Rn) (cs : Array Value) : RunsTo w lo rs cs 0 := ⟨[], rfl, Fill.zero _ _, fun j h r h1 _ => by simp at h1⟩
theorem RunsTo.on {w w' : World} {lo : Nat} {rs : List Rn} {cs : Array Value} {k : Nat} (h : RunsTo w lo rs cs k) (hb : Below w.heap.size w w') : RunsTo w' lo rs cs k := by
  obtain ⟨hs, h1, h2, h3⟩ := h
  exact ⟨hs, h1, h2, fun j h r e1 e2 => ⟨(h3 j h r e1 e2).1, (h3 j h r e1 e2).2.1, ((h3 j h r e1 e2).2.2.on hb).wide (Nat.le_refl _) hb.size⟩⟩
theorem RunsTo.set_ {w : World} {lo : Nat} {rs : List Rn} {cs : Array Value} {k : Nat} (h : RunsTo w lo rs cs k) {p : Addr} (hp : p.block < lo) (u : Value) : RunsTo (w.setCell p u) lo rs cs k := by
  obtain ⟨hs, h1, h2, h3⟩ := h
  have hO : Only p.block (p.block + 1) w (w.setCell p u) := (Only.refl _ _ _).setCell (Nat.le_refl _) (Nat.lt_succ_self _) _
  exact ⟨hs, h1, h2, fun j h r e1 e2 => ⟨(h3 j h r e1 e2).1, (h3 j h r e1 e2).2.1, ((h3 j h r e1 e2).2.2.apart hO (.inr (by omega))).wide (Nat.le_refl _) hO.size⟩⟩
theorem RunsTo.step {w : World} {lo : Nat} {rs : List Rn} {cs : Array Value} {k m c : Nat} {A : Option Addr} {r : Rn} (h : RunsTo w lo rs cs k) (hr : rs[k]? = some r) (hm : m ≤ 9223372036854775807) (hd : Sl w lo w.heap.size 2 1 A m c (ints r.way)) (hcs : k * 2 + 1 < cs.size) :
    RunsTo w lo rs ((cs.setIfInBounds (k * 2) (.slice A m c)).setIfInBounds (k * 2 + 1) (.int .i64 r.st)) (k + 1) := by
  obtain ⟨hs, h1, h2, h3⟩ := h
  have hk : (hs ++ [⟨A, m, c, r.st⟩])[k]? = some (⟨A, m, c, r.st⟩ : RnH) := by rw [← h1]; simp
  have hF : Fill cs (rns (hs ++ [⟨A, m, c, r.st⟩])) (k * 2) := fun j hj => by
    rw [h2 j hj, rns, rns, List.flatMap_append, List.getElem?_append_left (by have := rns_length hs; unfold rns at this; omega)]
  obtain ⟨e0, e1⟩ := rns_get hk
  refine ⟨hs ++ [⟨A, m, c, r.st⟩], by simp [h1], ?_, fun j h r' g1 g2 => ?_⟩
  · rw [show (k + 1) * 2 = k * 2 + 1 + 1 from by omega]
    exact (hF.step e0 (by omega)).step e1 (by simp; omega)
  · by_cases e : j < hs.length
    · rw [List.getElem?_append_left e] at g1
      exact h3 j h r' g1 g2
    · have hj := (List.getElem?_eq_some_iff.1 g1).1
      simp at hj
      obtain rfl : j = k := by omega
      rw [hk] at g1
      injection g1 with g1
      subst g1
      rw [hr] at g2
      injection g2 with g2
      subst g2
      exact ⟨rfl, hm, hd⟩
/-- Runs in blocks of one's own: heads and ways in [lo, hi). -/
def RunsS (w : World) (lo hi : Nat) (A : Option Addr) (n c : Nat) (rs : List Rn) : Prop :=
  ∃ hs : List RnH, Sl w lo hi 54 2 A n c (rns hs) ∧ rs.length = n ∧ ∀ (k : Nat) (h : RnH) (r : Rn), hs[k]? = some h → rs[k]? = some r → h.st = r.st ∧ h.m ≤ 9223372036854775807 ∧ Sl w lo hi 2 1 h.A h.m h.c (ints r.way)
section
variable {w w' : World} {lo hi lo' hi' B n c : Nat} {A : Option Addr} {rs : List Rn}
theorem RunsS.on (h : RunsS w lo hi A n c rs) (hb : Below w.heap.size w w') : RunsS w' lo hi A n c rs := by
  obtain ⟨hs, h1, h2, h3⟩ := h
  exact ⟨hs, h1.on hb, h2, fun k h r e1 e2 => ⟨(h3 k h r e1 e2).1, (h3 k h r e1 e2).2.1, (h3 k h r e1 e2).2.2.on hb⟩⟩
theorem RunsS.apart (h : RunsS w lo hi A n c rs) (ho : Only lo' hi' w w') (hd : hi ≤ lo' ∨ hi' ≤ lo) : RunsS w' lo hi A n c rs := by
  obtain ⟨hs, h1, h2, h3⟩ := h
  exact ⟨hs, h1.apart ho hd, h2, fun k h r e1 e2 => ⟨(h3 k h r e1 e2).1, (h3 k h r e1 e2).2.1, (h3 k h r e1 e2).2.2.apart ho hd⟩⟩
theorem RunsS.wide (h : RunsS w lo hi A n c rs) (h1 : lo' ≤ lo) (h2 : hi ≤ hi') : RunsS w lo' hi' A n c rs := by
  obtain ⟨hs, g1, g2, g3⟩ := h
  exact ⟨hs, g1.wide h1 h2, g2, fun k h r e1 e2 => ⟨(g3 k h r e1 e2).1, (g3 k h r e1 e2).2.1, (g3 k h r e1 e2).2.2.wide h1 h2⟩⟩
theorem RunsS.reads (h : RunsS w lo hi A n c rs) (hB : hi ≤ B) : RunsR w B A n rs := by
  obtain ⟨hs, g1, g2, g3⟩ := h
  exact ⟨hs, g1.reads hB, g2, fun k h r e1 e2 => ⟨(g3 k h r e1 e2).1, (g3 k h r e1 e2).2.1, (g3 k h r e1 e2).2.2.reads hB⟩⟩
end
theorem RunsTo.done {w : World} {lo lo' : Nat} {rs : List Rn} {cs : Array Value} {k g : Nat} (h : RunsTo w lo rs cs k) (hb : Blk w g 54 cs) (hc : cs.size = k * 2) (hr : rs.length = k) (h1 : lo' ≤ g) (h2 : lo' ≤ lo) (hk : k ≤ maxLen) : RunsS w lo' w.heap.size (some ⟨g, 0, none⟩) k k rs := by
  obtain ⟨hs, g1, g2, g3⟩ := h
  have hg := hb.lt
  refine ⟨hs, ?_, hr, fun j h r e1 e2 => ⟨(g3 j h r e1 e2).1, (g3 j h r e1 e2).2.1, (g3 j h r e1 e2).2.2.wide h2 (Nat.le_refl _)⟩⟩
  rw [g2.done hc (by rw [rns_length]; omega)] at hb
  exact Sl.of_blk hb h1 hg (by rw [rns_length]; omega) hk

end Go.Proofs.YtgcepomehgedfaaDoor
