/- Tube values: their cells, lists of them, the law's copies, sizes, comparisons and marks. -/
import Derived.Test.YtgcepomehgedfaaGreatDoorProg
import Derived.Test.YtgcepomehgedfaaGreatDoorMem
import Derived.Test.YtgcepomehgedfaaGreatDoorOpen
import Derived.Deep.RegionHeld3
import Derived.BigQuiet
set_option linter.unusedVariables false
namespace Go.Proofs.YtgcepomehgedfaaGreatDoor
open Go.RowKit Go.ChangeShapes Go.WideShapes Go.Deep

structure Tb where
  from_ : Int
  to_ : Int
  len : Int

def Tb.good (x : Tb) : Prop := I64 x.from_ ∧ I64 x.to_ ∧ I64 x.len
def cellsTb (x : Tb) : List Value := [.int .i64 x.from_, .int .i64 x.to_, .int .i64 x.len]
def tbv (x : Tb) : Value := .agg #[.int .i64 x.from_, .int .i64 x.to_, .int .i64 x.len]
def tbs (l : List Tb) : List Value := l.flatMap cellsTb
theorem tbs_length (l : List Tb) : (tbs l).length = l.length * 3 := flat_length cellsTb 3 (fun _ => rfl) l
theorem tbs_get {l : List Tb} {k : Nat} {x : Tb} (h : l[k]? = some x) : (tbs l)[k * 3]? = some (.int .i64 x.from_) ∧ (tbs l)[k * 3 + 1]? = some (.int .i64 x.to_) ∧ (tbs l)[k * 3 + 2]? = some (.int .i64 x.len) :=
  ⟨flat_get cellsTb 3 (fun _ => rfl) l k x h 0 (by omega), flat_get cellsTb 3 (fun _ => rfl) l k x h 1 (by omega), flat_get cellsTb 3 (fun _ => rfl) l k x h 2 (by omega)⟩
theorem tbs_len {w : World} {B n : Nat} {A : Option Addr} {l : List Tb} (h : Reads w B 3 A n (tbs l)) : l.length = n := by
  have := h.1
  rw [tbs_length] at this
  omega
theorem tb_at {w : World} {B n k : Nat} {A : Option Addr} {l : List Tb} (h : Reads w B 3 A n (tbs l)) (hk : k < n) :
    ∃ (x : Tb) (b off : Nat), l[k]? = some x ∧ A = some ⟨b, off, none⟩ ∧ b < B ∧ w.cell? ⟨b, off + k * 3, none⟩ = some (.int .i64 x.from_) ∧ w.cell? ⟨b, off + k * 3 + 1, none⟩ = some (.int .i64 x.to_) ∧ w.cell? ⟨b, off + k * 3 + 2, none⟩ = some (.int .i64 x.len) := by
  obtain ⟨b, off, rfl, hb, hcell⟩ := h.at_ (by omega)
  have hl := tbs_len h
  have he : l[k]? = some l[k] := List.getElem?_eq_getElem (by omega)
  obtain ⟨e0, e1, e2⟩ := tbs_get he
  exact ⟨_, b, off, he, rfl, hb, hcell _ _ e0, hcell _ _ e1, hcell _ _ e2⟩

section
variable {H : Type} {enc : TypeId × Value → H} {w : World}
theorem read_tb {n : Nat} {cs : List Value} {y : DataW H × List MemPlace} {base : Nat} {spare : Nat → Bool} {held : Bool} (hl : cs.length = 3)
    (h : DataW.trod enc Tryz.prog w base spare held n 84 cs = some y) : ∃ x : Tb, cellsTb x = cs ∧ x.good := by
  obtain ⟨n', hfs⟩ := trod_fields Tryz.underlying84 (by kernel_rfl) hl h
  obtain ⟨v0, z0, e0, t0⟩ := hfs 0 _ rfl
  obtain ⟨v1, z1, e1, t1⟩ := hfs 1 _ rfl
  obtain ⟨v2, z2, e2, t2⟩ := hfs 2 _ rfl
  obtain ⟨x0, rfl, g0⟩ := field_int Tryz.underlying2 t0
  obtain ⟨x1, rfl, g1⟩ := field_int Tryz.underlying2 t1
  obtain ⟨x2, rfl, g2⟩ := field_int Tryz.underlying2 t2
  exact ⟨⟨x0, x1, x2⟩, (list3 hl e0 e1 e2).symm, I64_of_wf g0, I64_of_wf g1, I64_of_wf g2⟩
theorem open_tbs {d : DataW H} {p : List MemPlace} {A : Option Addr} {len cap : Nat} (h : DataW.Trod enc Tryz.prog w 0 (fun _ => true) true 22 (.slice A len cap) d p) :
    ∃ l : List Tb, (∀ x ∈ l, x.good) ∧ len ≤ 9223372036854775807 ∧ Reads w w.heap.size 3 A len (tbs l) := by
  obtain ⟨fuel, hf⟩ := h
  obtain ⟨A', len', cap', l, hcs, hn, hr, hgd⟩ := open_list cellsTb 3 Tb.good (fun _ => rfl) Tryz.underlying22 (by kernel_rfl) (by omega) (fun n cs' y hl ht => by
    exact read_tb hl ht) hf
  simp [Value.cells] at hcs
  obtain ⟨rfl, rfl, rfl⟩ := hcs
  exact ⟨l, hgd, hn, hr⟩
set_option maxRecDepth 100000 in
theorem open_tb {r : Reach} {b0 : Nat} {d : DataW H} {p : List MemPlace} {v : Value} (hv : Value.okWide Tryz.prog w r b0 84 v) (h : DataW.Trod enc Tryz.prog w 0 (fun _ => true) true 84 v d p) :
    ∃ x : Tb, v = tbv x ∧ x.good := by
  obtain ⟨cs, rfl, hsz⟩ := okWide_struct Tryz.underlying84 hv
  obtain ⟨fuel, hf⟩ := h
  have hC : Tryz.prog.cellsOf 84 = 3 := by kernel_rfl
  have hl : (Value.agg cs).cells.toList.length = 3 := by show cs.toList.length = 3; rw [Array.length_toList]; exact hsz.trans hC
  obtain ⟨x, hx, hg⟩ := read_tb hl hf
  refine ⟨x, ?_, hg⟩
  have : cs = (cellsTb x).toArray := by rw [hx]; simp [Value.cells]
  rw [this]
  rfl
end

theorem szTubeS_any (A : Option Addr) (n c : Nat) (q : Int) (w : World) (hq0 : 0 ≤ q) (hq : q ≤ 1048576) (hn : n ≤ 9223372036854775807) :
    Calls Tryz.prog 22 #[.slice A n c, .int .i64 q] w fun e w' => w = w' ∧ ∃ r : Int, e = .returned (.int .i64 r) ∧ (r < 0 ∨ (0 ≤ r ∧ r ≤ q ∧ (n : Int) ≤ q)) := by
  by_cases h : (n : Int) ≤ q
  · go_enter Tryz.func22, Tryz.ntmps22
    go_wp2
    go_ret
    exact ⟨rfl, _, rfl, .inr ⟨by omega, by omega, h⟩⟩
  · go_enter Tryz.func22, Tryz.ntmps22
    go_wp2
    go_ret
    exact ⟨rfl, _, rfl, .inl (by omega)⟩

theorem toTube_any (x : Tb) (w : World) : Calls Tryz.prog 42 #[.agg #[.int .i64 x.from_, .int .i64 x.to_, .int .i64 x.len]] w fun e w' => e = .returned (.agg #[.int .i64 x.from_, .int .i64 x.to_, .int .i64 x.len]) ∧ Below w.heap.size w w' := by
  go_enter Tryz.func42, Tryz.ntmps42
  go_wp2
  exact bodyPost_ret (v := .agg #[.int .i64 x.from_, .int .i64 x.to_, .int .i64 x.len]) (by simp [results, Tryz.results42, go_sem]) rfl ⟨rfl, ((((Below.refl _ _).alloc (Nat.le_refl _) _).alloc (by simp) _).alloc (by simp; omega) _)⟩
theorem make_tb (n : Nat) (hn : n ≤ 1048576) : ∀ w : World, (Instr.makeSlice 31 (.int .i64 (n : Int)) (.int .i64 (n : Int))).run Tryz.prog w = .ok (.slice (some ⟨w.heap.size, 0, none⟩) n n) (w.alloc (.cells (madeCells #[.int .i64 0, .int .i64 0, .int .i64 0] (n * 3)) 79)) :=
  run_make_small 31 79 (.agg #[.int .i64 0, .int .i64 0, .int .i64 0]) 3 24 Tryz.underlying31 (by kernel_rfl) (by decide) n hn
theorem toTubeS_any (A : Option Addr) (n c B : Nat) (l : List Tb) (w : World) (h : Reads w B 3 A n (tbs l)) (hB : B ≤ w.heap.size) (hn : n ≤ 1048576) :
    Calls Tryz.prog 28 #[.slice A n c] w fun e w' => ∃ g, e = .returned (.slice (some ⟨g, 0, none⟩) n n) ∧ Sl w' w.heap.size w'.heap.size 79 3 (some ⟨g, 0, none⟩) n n (tbs l) ∧ Below w.heap.size w w' := by
  have hmk := make_tb n hn
  go_enter Tryz.func28, Tryz.ntmps28
  go_wp2
  have hb0 := Blk.new w 79 (madeCells #[.int .i64 0, .int .i64 0, .int .i64 0] (n * 3))
  go_loopw [4] (fun i wr => ∃ (k : Nat) (cs : Array Value), k ≤ n ∧ i = .int .i64 k ∧ Blk wr w.heap.size 79 cs ∧ cs.size = n * 3 ∧ Fill cs (tbs l) (k * 3) ∧ Below w.heap.size w wr) (fun i _ => n - (intOf i).toNat)
  case atStart => exact ⟨0, _, Nat.zero_le _, rfl, hb0, size_madeCells _ _, Fill.zero _ _, (Below.refl _ _).alloc (Nat.le_refl _) _⟩
  case round =>
    obtain ⟨k, cs, hk, rfl, hblk, hcs, hfill, hbel⟩ := hrel
    clear hmk hb0
    have HF := Lib.hid hfill
    have HC := Lib.hid hcs
    have HBk := Lib.hid hblk
    have hgl := hblk.lt
    clear hfill hcs hblk
    by_cases hlt : k < n
    · obtain ⟨x, b, off, he, rfl, hb, c0, c1, c2⟩ := tb_at (h.on hB hbel) hlt
      have HE := Lib.hid (tbs_get he)
      clear he
      go_wp2_with (go_at_call 42; refine (toTube_any x _).mono ?_; rintro e w1 ⟨rfl, hb1⟩; have HB1 := Lib.hid hb1; have hblk1 := HBk.out.below hb1 hgl; have hs0 := hblk1.cellAt (k * 3) (by have := HC.out; omega); have f0 := hblk1.frozen (k * 3); have hs1 := hblk1.cellAt (k * 3 + 1) (by have := HC.out; omega); have f1 := hblk1.frozen (k * 3 + 1); have hs2 := hblk1.cellAt (k * 3 + 2) (by have := HC.out; omega); have f2 := hblk1.frozen (k * 3 + 2); clear hb1; have HBk1 := Lib.hid hblk1; clear hblk1)
      go_roundw
      case rel =>
        refine ⟨k + 1, _, by omega, by go_num, (((HBk1.out.set_ _ _).set_ _ _).set_ _ _), by simp [HC.out], ?_, ((((bnext hbel HB1.out (Nat.le_refl _)).setCell (Nat.le_refl _) _).setCell (Nat.le_refl _) _).setCell (Nat.le_refl _) _)⟩
        rw [show (k + 1) * 3 = k * 3 + 1 + 1 + 1 from by omega]
        exact (((HF.out.step HE.out.1 (by have := HC.out; omega)).step HE.out.2.1 (by have := HC.out; simp; omega)).step HE.out.2.2 (by have := HC.out; simp; omega))
      case measure => simp [intOf]; omega
    · obtain rfl : k = n := by omega
      go_wp2
      go_ret
      refine ⟨_, rfl, Sl.of_blk ?_ (Nat.le_refl _) hgl h.1 (by unfold maxLen; omega), hbel⟩
      rw [← HF.out.done HC.out h.1]
      exact HBk.out

theorem eqTube_same (x : Tb) (w : World) : Calls Tryz.prog 53 #[.agg #[.int .i64 x.from_, .int .i64 x.to_, .int .i64 x.len], .agg #[.int .i64 x.from_, .int .i64 x.to_, .int .i64 x.len]] w fun e w' => e = .returned (.bool true) ∧ Below w.heap.size w w' := by
  go_enter Tryz.func53, Tryz.ntmps53
  go_wp2
  go_ret
  exact ⟨rfl, ((Below.refl _ _).alloc (Nat.le_refl _) _).alloc (by simp) _⟩
theorem eqTubeS_same (A A' : Option Addr) (n c c' B : Nat) (l : List Tb) (w : World) (h : Reads w B 3 A n (tbs l)) (h' : Reads w B 3 A' n (tbs l)) (hn : n ≤ 1048576) (hB : B ≤ w.heap.size) :
    Calls Tryz.prog 34 #[.slice A n c, .slice A' n c'] w fun e w' => e = .returned (.bool true) ∧ Below w.heap.size w w' := by
  go_enter Tryz.func34, Tryz.ntmps34
  go_wp2
  go_loopw [5] (fun i wr => ∃ k : Nat, k ≤ n ∧ i = .int .i64 k ∧ Below w.heap.size w wr) (fun i _ => n - (intOf i).toNat)
  case atStart => exact ⟨0, Nat.zero_le _, rfl, Below.refl _ _⟩
  case round =>
    obtain ⟨k, hk, rfl, hbel⟩ := hrel
    by_cases hlt : k < n
    · obtain ⟨x, b, off, he, rfl, hb, c0, c1, c2⟩ := tb_at (h.on hB hbel) hlt
      obtain ⟨x', b', off', he', rfl, hb', d0, d1, d2⟩ := tb_at (h'.on hB hbel) hlt
      obtain rfl : x = x' := by rw [he] at he'; injection he'
      have HB := Lib.hid hbel
      have hlt' : (k : Int) < n := by omega
      have hk0 : (0 : Int) ≤ k := by omega
      have hbw : b < wr.heap.size := by have := hbel.size; omega
      have hbw' : b' < wr.heap.size := by have := hbel.size; omega
      clear he he' hbel h h'
      go_wp2_with fail
      go_region_held3 (fun W => Below wr.heap.size wr W ∧ W.cell? ⟨b, off + k * 3, none⟩ = some (.int .i64 x.from_) ∧ W.cell? ⟨b, off + k * 3 + 1, none⟩ = some (.int .i64 x.to_) ∧ W.cell? ⟨b, off + k * 3 + 2, none⟩ = some (.int .i64 x.len) ∧ W.cell? ⟨b', off' + k * 3, none⟩ = some (.int .i64 x.from_) ∧ W.cell? ⟨b', off' + k * 3 + 1, none⟩ = some (.int .i64 x.to_) ∧ W.cell? ⟨b', off' + k * 3 + 2, none⟩ = some (.int .i64 x.len)) (first | exact ⟨(Below.refl _ _).drew, c0, c1, c2, d0, d1, d2⟩ | (go_split_ands; exact ⟨bnext (by assumption) hb1 (Nat.le_refl _), cell_on hb1 (by assumption), cell_on hb1 (by assumption), cell_on hb1 (by assumption), cell_on hb1 (by assumption), cell_on hb1 (by assumption), cell_on hb1 (by assumption)⟩)) (first | (go_at_call 53; refine (eqTube_same x _).mono ?_; rintro e w1 ⟨rfl, hb1⟩))
      rename_i hS
      have HS := Lib.hid (bnext HB.out hS.1 (Nat.le_refl _))
      clear hS hb1 c0 c1 c2 d0 d1 d2
      go_wp2
      go_roundw
      case rel => exact ⟨k + 1, by omega, by go_num, HS.out⟩
      case measure => simp [intOf]; omega
    · obtain rfl : k = n := by omega
      go_wp2
      go_ret
      exact ⟨rfl, hbel⟩

end Go.Proofs.YtgcepomehgedfaaGreatDoor
