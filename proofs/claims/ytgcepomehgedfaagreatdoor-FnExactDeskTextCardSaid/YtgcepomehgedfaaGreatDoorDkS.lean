/- Runs: the law's copies and its comparison. -/
import Derived.Test.YtgcepomehgedfaaGreatDoorDkR
import Derived.Deep.RegionHeld3
import Derived.BigQuiet
set_option linter.unusedVariables false
namespace Go.Proofs.YtgcepomehgedfaaGreatDoor
open Go.RowKit

theorem size_al (w : World) (o : Obj) : (w.alloc o).heap.size = w.heap.size + 1 := by simp
/-- Three blocks made: how they lie. -/
theorem three_al (w : World) (a b c : Array Value) (ta tb tc : TypeId) : ∃ W, W = ((w.alloc (.cells a ta)).alloc (.cells b tb)).alloc (.cells c tc) ∧ W.heap.size = w.heap.size + 1 + 1 + 1 ∧ Blk W w.heap.size ta a ∧ Blk W (w.heap.size + 1) tb b ∧ Blk W (w.heap.size + 1 + 1) tc c ∧ Below w.heap.size w W := by
  refine ⟨_, rfl, by simp, ((Blk.new _ _ _).alloc _).alloc _, ?_, ?_, (((Below.refl _ _).alloc (Nat.le_refl _) _).alloc (by simp) _).alloc (by simp; omega) _⟩
  · have := (Blk.new (w.alloc (.cells a ta)) tb b).alloc (.cells c tc)
    rwa [size_al] at this
  · have := Blk.new ((w.alloc (.cells a ta)).alloc (.cells b tb)) tc c
    rwa [size_al, size_al] at this

theorem toRun_any (A : Option Addr) (m c B : Nat) (st : Int) (l : List Int) (w : World) (h : Reads w B 1 A m (ints l)) (hB : B ≤ w.heap.size) (hm : m ≤ 1048576) :
    Calls Tryz.prog 29 #[.agg #[.slice A m c, .int .i64 st]] w fun e w' => ∃ g, e = .returned (.agg #[.slice (some ⟨g, 0, none⟩) m m, .int .i64 st]) ∧ Sl w' w.heap.size w'.heap.size 2 1 (some ⟨g, 0, none⟩) m m (ints l) ∧ Below w.heap.size w w' := by
  obtain ⟨W, hW, hs, k0, k1, k2, hb⟩ := three_al w #[.slice A m c, .int .i64 st] #[.slice none 0 0, .int .i64 0] #[.slice none 0 0, .int .i64 0] 57 65 65
  have HW := Lib.hid hW
  have HS := Lib.hid hs
  have HK0 := Lib.hid k0
  have HK1 := Lib.hid k1
  have HK2 := Lib.hid k2
  have HB := Lib.hid hb
  clear hW hs k0 k1 k2 hb
  go_enter Tryz.func29, Tryz.ntmps29
  go_wp2_with fail
  rw [← HW.out]
  refine (toInt64S_any A m c B l W (h.on hB HB.out) (by have := HS.out; omega) hm).mono ?_
  rintro e w1 ⟨g, rfl, s1, b1⟩
  have a0 := (HK0.out.on b1).cellAt 1 (by simp)
  have a1 := (HK2.out.on b1).cellAt 0 (by simp)
  have f1 := (HK2.out.on b1).frozen 0
  have a2 := (HK2.out.on b1).cellAt 1 (by simp)
  have f2 := (HK2.out.on b1).frozen 1
  have a3 := (HK1.out.on b1).cellAt 0 (by simp)
  have f3 := (HK1.out.on b1).frozen 0
  have a4 := (HK1.out.on b1).cellAt 1 (by simp)
  have f4 := (HK1.out.on b1).frozen 1
  have S1 := Lib.hid s1
  have HB1 := Lib.hid b1
  clear s1 b1
  go_wp2
  obtain ⟨WF, hWF⟩ : ∃ WF, WF = (((w1.setCell ⟨w.heap.size + 1 + 1, 0, none⟩ (.slice (some ⟨g, 0, none⟩) m m)).setCell ⟨w.heap.size + 1 + 1, 1, none⟩ (.int .i64 st)).setCell ⟨w.heap.size + 1, 0, none⟩ (.slice (some ⟨g, 0, none⟩) m m)).setCell ⟨w.heap.size + 1, 1, none⟩ (.int .i64 st) := ⟨_, rfl⟩
  have KF : Blk WF (w.heap.size + 1) 65 #[.slice (some ⟨g, 0, none⟩) m m, .int .i64 st] := by
    rw [hWF]
    exact (((((HK1.out.on HB1.out).far (p := ⟨w.heap.size + 1 + 1, 0, none⟩) (by simp) _).far (p := ⟨w.heap.size + 1 + 1, 1, none⟩) (by simp) _).set_ 0 _).set_ 1 _)
  have hO : Only w.heap.size W.heap.size w1 WF := by
    rw [hWF]
    have := HS.out
    exact ((((Only.refl _ _ _).setCell (by simp; omega) (by simp; omega) _).setCell (by simp; omega) (by simp; omega) _).setCell (by simp) (by simp; omega) _).setCell (by simp) (by simp; omega) _
  rw [← hWF]
  have r0 := KF.cellAt 0 (by simp)
  have r1 := KF.cellAt 1 (by simp)
  simp only [List.getElem_toArray, List.getElem_cons_zero, List.getElem_cons_succ] at r0 r1
  clear hWF a0 a1 a2 a3 a4 f1 f2 f3 f4
  refine bodyPost_ret (v := .agg #[.slice (some ⟨g, 0, none⟩) m m, .int .i64 st]) (by simp [results, Tryz.results29, go_sem, r0, r1]) rfl ?_
  exact ⟨g, rfl, (S1.out.apart hO (.inr (Nat.le_refl _))).wide (by have := HS.out; omega) hO.size, bonly (bnext HB.out HB1.out (Nat.le_refl _)) hO (Nat.le_refl _) (Nat.le_refl _)⟩

theorem make_rn (n : Nat) (hn : n ≤ 1048576) : ∀ w : World, (Instr.makeSlice 34 (.int .i64 (n : Int)) (.int .i64 (n : Int))).run Tryz.prog w = .ok (.slice (some ⟨w.heap.size, 0, none⟩) n n) (w.alloc (.cells (madeCells #[.slice none 0 0, .int .i64 0] (n * 2)) 65)) :=
  run_make_small 34 65 (.agg #[.slice none 0 0, .int .i64 0]) 2 32 Tryz.underlying34 (by kernel_rfl) (by decide) n hn
/-- How far the copying has come: the heads of the first k runs stand, their ways lie from lo on. -/
def RunsTo (w : World) (lo : Nat) (rs : List Rn) (cs : Array Value) (k : Nat) : Prop :=
  ∃ hs : List RnH, hs.length = k ∧ Fill cs (rns hs) (k * 2) ∧ ∀ (j : Nat) (h : RnH) (r : Rn), hs[j]? = some h → rs[j]? = some r → h.st = r.st ∧ h.m ≤ 9223372036854775807 ∧ Sl w lo w.heap.size 2 1 h.A h.m h.c (ints r.way)
theorem RunsTo.zero (w : World) (lo : Nat) (rs : List Rn) (cs : Array Value) : RunsTo w lo rs cs 0 := ⟨[], rfl, Fill.zero _ _, fun j h r h1 _ => by simp at h1⟩
theorem RunsTo.on {w w' : World} {lo : Nat} {rs : List Rn} {cs : Array Value} {k : Nat} (h : RunsTo w lo rs cs k) (hb : Below w.heap.size w w') : RunsTo w' lo rs cs k := by
  obtain ⟨hs, h1, h2, h3⟩ := h
  exact ⟨hs, h1, h2, fun j h r e1 e2 => ⟨(h3 j h r e1 e2).1, (h3 j h r e1 e2).2.1, ((h3 j h r e1 e2).2.2.on hb).wide (Nat.le_refl _) hb.size⟩⟩
theorem RunsTo.set_ {w : World} {lo : Nat} {rs : List Rn} {cs : Array Value} {k : Nat} (h : RunsTo w lo rs cs k) {p : Addr} (hp : p.block < lo) (u : Value) : RunsTo (w.setCell p u) lo rs cs k := by
  obtain ⟨hs, h1, h2, h3⟩ := h
  have hO : Only p.block (p.block + 1) w (w.setCell p u) := (Only.refl _ _ _).setCell (Nat.le_refl _) (Nat.lt_succ_self _) _
  exact ⟨hs, h1, h2, fun j h r e1 e2 => ⟨(h3 j h r e1 e2).1, (h3 j h r e1 e2).2.1, ((h3 j h r e1 e2).2.2.apart hO (.inr (by omega))).wide (Nat.le_refl _) hO.size⟩⟩
theorem RunsTo.step {w : World} {lo : Nat} {rs : List Rn} {cs : Array Value} {k m c : Nat} {A : Option Addr} {r : Rn} (h : RunsTo w lo rs cs k) (hr : rs[k]? = some r) (hm : m ≤ 9223372036854775807) (hd : Sl w lo w.heap.size 2 1 A m c (ints r.way)) (hcs : k * 2 + 1 < cs.size) :
    RunsTo w lo rs ((cs.setIfInBounds (k * 2) (.slice A m c)).setIfInBounds (k * 2 + 1) (.int .i64 r.st)) (k + 1) := by
  obtain ⟨hs, h1, h2, h3⟩ := h
  have hk : (hs ++ [⟨A, m, c, r.st⟩])[k]? = some (⟨A, m, c, r.st⟩ : RnH) := by rw [← h1]; simp
  have hF : Fill cs (rns (hs ++ [⟨A, m, c, r.st⟩])) (k * 2) := fun j hj => by
    rw [h2 j hj, rns, rns, List.flatMap_append, List.getElem?_append_left (by have := rns_length hs; unfold rns at this; omega)]
  obtain ⟨e0, e1⟩ := rns_get hk
  refine ⟨hs ++ [⟨A, m, c, r.st⟩], by simp [h1], ?_, fun j h r' g1 g2 => ?_⟩
  · rw [show (k + 1) * 2 = k * 2 + 1 + 1 from by omega]
    exact (hF.step e0 (by omega)).step e1 (by simp; omega)
  · by_cases e : j < hs.length
    · rw [List.getElem?_append_left e] at g1
      exact h3 j h r' g1 g2
    · have hj := (List.getElem?_eq_some_iff.1 g1).1
      simp at hj
      obtain rfl : j = k := by omega
      rw [hk] at g1
      injection g1 with g1
      subst g1
      rw [hr] at g2
      injection g2 with g2
      subst g2
      exact ⟨rfl, hm, hd⟩
/-- Runs in blocks of one's own: heads and ways in [lo, hi). -/
def RunsS (w : World) (lo hi : Nat) (A : Option Addr) (n c : Nat) (rs : List Rn) : Prop :=
  ∃ hs : List RnH, Sl w lo hi 65 2 A n c (rns hs) ∧ rs.length = n ∧ ∀ (k : Nat) (h : RnH) (r : Rn), hs[k]? = some h → rs[k]? = some r → h.st = r.st ∧ h.m ≤ 9223372036854775807 ∧ Sl w lo hi 2 1 h.A h.m h.c (ints r.way)
section
variable {w w' : World} {lo hi lo' hi' B n c : Nat} {A : Option Addr} {rs : List Rn}
theorem RunsS.on (h : RunsS w lo hi A n c rs) (hb : Below w.heap.size w w') : RunsS w' lo hi A n c rs := by
  obtain ⟨hs, h1, h2, h3⟩ := h
  exact ⟨hs, h1.on hb, h2, fun k h r e1 e2 => ⟨(h3 k h r e1 e2).1, (h3 k h r e1 e2).2.1, (h3 k h r e1 e2).2.2.on hb⟩⟩
theorem RunsS.apart (h : RunsS w lo hi A n c rs) (ho : Only lo' hi' w w') (hd : hi ≤ lo' ∨ hi' ≤ lo) : RunsS w' lo hi A n c rs := by
  obtain ⟨hs, h1, h2, h3⟩ := h
  exact ⟨hs, h1.apart ho hd, h2, fun k h r e1 e2 => ⟨(h3 k h r e1 e2).1, (h3 k h r e1 e2).2.1, (h3 k h r e1 e2).2.2.apart ho hd⟩⟩
theorem RunsS.wide (h : RunsS w lo hi A n c rs) (h1 : lo' ≤ lo) (h2 : hi ≤ hi') : RunsS w lo' hi' A n c rs := by
  obtain ⟨hs, g1, g2, g3⟩ := h
  exact ⟨hs, g1.wide h1 h2, g2, fun k h r e1 e2 => ⟨(g3 k h r e1 e2).1, (g3 k h r e1 e2).2.1, (g3 k h r e1 e2).2.2.wide h1 h2⟩⟩
theorem RunsS.reads (h : RunsS w lo hi A n c rs) (hB : hi ≤ B) : RunsR w B A n rs := by
  obtain ⟨hs, g1, g2, g3⟩ := h
  exact ⟨hs, g1.reads hB, g2, fun k h r e1 e2 => ⟨(g3 k h r e1 e2).1, (g3 k h r e1 e2).2.1, (g3 k h r e1 e2).2.2.reads hB⟩⟩
end
theorem RunsTo.done {w : World} {lo lo' : Nat} {rs : List Rn} {cs : Array Value} {k g : Nat} (h : RunsTo w lo rs cs k) (hb : Blk w g 65 cs) (hc : cs.size = k * 2) (hr : rs.length = k) (h1 : lo' ≤ g) (h2 : lo' ≤ lo) (hk : k ≤ maxLen) : RunsS w lo' w.heap.size (some ⟨g, 0, none⟩) k k rs := by
  obtain ⟨hs, g1, g2, g3⟩ := h
  have hg := hb.lt
  refine ⟨hs, ?_, hr, fun j h r e1 e2 => ⟨(g3 j h r e1 e2).1, (g3 j h r e1 e2).2.1, (g3 j h r e1 e2).2.2.wide h2 (Nat.le_refl _)⟩⟩
  rw [g2.done hc (by rw [rns_length]; omega)] at hb
  exact Sl.of_blk hb h1 hg (by rw [rns_length]; omega) hk

theorem toRunS_any (A : Option Addr) (n c B : Nat) (rs : List Rn) (w : World) (h : RunsR w B A n rs) (hB : B ≤ w.heap.size) (hn : n ≤ 1048576) (hsm : SmallR rs) :
    Calls Tryz.prog 16 #[.slice A n c] w fun e w' => ∃ g, e = .returned (.slice (some ⟨g, 0, none⟩) n n) ∧ RunsS w' w.heap.size w'.heap.size (some ⟨g, 0, none⟩) n n rs ∧ Below w.heap.size w w' := by
  have hmk := make_rn n hn
  have HSM := Lib.hid hsm
  clear hsm
  go_enter Tryz.func16, Tryz.ntmps16
  go_wp2
  have hb0 := Blk.new w 65 (madeCells #[.slice none 0 0, .int .i64 0] (n * 2))
  go_loopw [4] (fun i wr => ∃ (k : Nat) (cs : Array Value), k ≤ n ∧ i = .int .i64 k ∧ Blk wr w.heap.size 65 cs ∧ cs.size = n * 2 ∧ RunsTo wr (w.heap.size + 1) rs cs k ∧ Below w.heap.size w wr) (fun i _ => n - (intOf i).toNat)
  case atStart => exact ⟨0, _, Nat.zero_le _, rfl, hb0, size_madeCells _ _, RunsTo.zero _ _ _ _, (Below.refl _ _).alloc (Nat.le_refl _) _⟩
  case round =>
    obtain ⟨k, cs, hk, rfl, hblk, hcs, hfill, hbel⟩ := hrel
    clear hmk hb0
    have HF := Lib.hid hfill
    have HC := Lib.hid hcs
    have HBk := Lib.hid hblk
    have hgl := hblk.lt
    clear hfill hcs hblk
    by_cases hlt : k < n
    · obtain ⟨x, b, off, A', m, c', he, rfl, hb, c0, c1, hrd, hm⟩ := run_at (h.on hB hbel) hlt
      have HE := Lib.hid he
      have hm2 : m ≤ 1048576 := by have := HSM.out k x he; have := ints_len hrd; omega
      have HR := Lib.hid (hrd.more (B' := wr.heap.size) (Nat.le_trans hB hbel.size))
      have HB := Lib.hid hbel
      clear he hbel hrd
      go_wp2_with fail
      refine (toRun_any A' m c' _ x.st x.way _ HR.out (Nat.le_refl _) hm2).mono ?_
      rintro e w1 ⟨g', rfl, hr1, hb1⟩
      have hblk1 := HBk.out.below hb1 hgl
      have hs0 := hblk1.cellAt (k * 2) (by have := HC.out; omega)
      have f0 := hblk1.frozen (k * 2)
      have hs1 := hblk1.cellAt (k * 2 + 1) (by have := HC.out; omega)
      have f1 := hblk1.frozen (k * 2 + 1)
      have HB1 := Lib.hid hb1
      have HR1 := Lib.hid hr1
      have HBk1 := Lib.hid hblk1
      clear hb1 hr1 hblk1
      go_wp2
      go_roundw
      case rel =>
        refine ⟨k + 1, _, by omega, by go_num, (HBk1.out.set_ _ _).set_ _ _, by simp [HC.out], ?_, ((bnext HB.out HB1.out (Nat.le_refl _)).setCell (Nat.le_refl _) _).setCell (Nat.le_refl _) _⟩
        refine ((RunsTo.step (HF.out.on HB1.out) HE.out (by omega) (HR1.out.wide (by have := HBk.out.lt; omega) (Nat.le_refl _)) (by have := HC.out; omega)).set_ ?_ _).set_ ?_ _ <;> exact Nat.lt_succ_self _
      case measure => simp [intOf]; omega
    · obtain rfl : k = n := by omega
      go_wp2
      go_ret
      exact ⟨_, rfl, HF.out.done HBk.out HC.out h.len (Nat.le_refl _) (Nat.le_succ _) (by unfold maxLen; omega), hbel⟩
end Go.Proofs.YtgcepomehgedfaaGreatDoor
