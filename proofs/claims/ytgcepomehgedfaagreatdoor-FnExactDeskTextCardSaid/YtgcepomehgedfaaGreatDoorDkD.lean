/- The desk: how it comes in, its size, the law's copy and comparison. -/
import Derived.Test.YtgcepomehgedfaaGreatDoorDkN
set_option linter.unusedVariables false
namespace Go.Proofs.YtgcepomehgedfaaGreatDoor
open Go.RowKit Go.ChangeShapes Go.WideShapes Go.Deep

structure Dk where
  net : Nt
  times : List Int
  runs : List Rn
  log : ByteArray
/-- Where the desk's lists lie. -/
structure DkH where
  A1 : Option Addr
  n1 : Nat
  c1 : Nat
  A2 : Option Addr
  n2 : Nat
  c2 : Nat
  A3 : Option Addr
  n3 : Nat
  c3 : Nat
def dkv (h : DkH) (d : Dk) : Value := .agg #[.int .i64 d.net.sta, .slice h.A1 h.n1 h.c1, .slice h.A2 h.n2 h.c2, .slice h.A3 h.n3 h.c3, .string d.log]
structure DkR (w : World) (B : Nat) (h : DkH) (d : Dk) : Prop where
  tubes : Reads w B 3 h.A1 h.n1 (tbs d.net.tubes)
  times : Reads w B 1 h.A2 h.n2 (ints d.times)
  runs : RunsR w B h.A3 h.n3 d.runs
structure DkH.ok (h : DkH) : Prop where
  n1 : h.n1 ≤ 9223372036854775807
  n2 : h.n2 ≤ 9223372036854775807
  n3 : h.n3 ≤ 9223372036854775807
structure DkS (h : DkH) (d : Dk) : Prop where
  n1 : h.n1 ≤ 1048576
  n2 : h.n2 ≤ 1048576
  n3 : h.n3 ≤ 1048576
  runs : SmallR d.runs
  log : d.log.size ≤ 1048576
def sameDk (x y : Dk) : Bool := sameNt x.net y.net && (sameL sameI x.times y.times && (sameL sameRn x.runs y.runs && x.log.toList == y.log.toList))
theorem sameDk_refl (x : Dk) : sameDk x x = true := by simp [sameDk, sameNt_refl, sameL_refl sameI_refl, sameL_refl sameRn_refl]
theorem DkR.on {w w' : World} {B : Nat} {h : DkH} {d : Dk} (hr : DkR w B h d) (hB : B ≤ w.heap.size) (hb : Below w.heap.size w w') : DkR w' B h d := ⟨hr.tubes.on hB hb, hr.times.on hB hb, hr.runs.on hB hb⟩
theorem DkR.more {w : World} {B B' : Nat} {h : DkH} {d : Dk} (hr : DkR w B h d) (hB : B ≤ B') : DkR w B' h d := ⟨hr.tubes.more hB, hr.times.more hB, hr.runs.more hB⟩

theorem len5 {α : Type} : ∀ {l : List α}, l.length = 5 → ∃ a b c d e, l = [a, b, c, d, e]
  | [a, b, c, d, e], _ => ⟨a, b, c, d, e, rfl⟩
section
variable {H : Type} {enc : TypeId × Value → H} {w : World}
theorem read_tbs {fuel : Nat} {cs : List Value} {y : DataW H × List MemPlace} {base : Nat} {spare : Nat → Bool} {held : Bool} (h : DataW.trod enc Tryz.prog w base spare held fuel 22 cs = some y) :
    ∃ (A : Option Addr) (len cap : Nat) (l : List Tb), cs = [.slice A len cap] ∧ len ≤ 9223372036854775807 ∧ Reads w w.heap.size 3 A len (tbs l) := by
  obtain ⟨A', len', cap', l, hcs, hn, hr, hgd⟩ := open_list cellsTb 3 Tb.good (fun _ => rfl) Tryz.underlying22 (by kernel_rfl) (by omega) (fun n cs' y hl ht => by
    exact read_tb hl ht) h
  exact ⟨_, _, _, l, hcs, hn, hr⟩
theorem read_nt {fuel : Nat} {cs : List Value} {y : DataW H × List MemPlace} {base : Nat} {spare : Nat → Bool} {held : Bool} (hl : cs.length = 2) (h : DataW.trod enc Tryz.prog w base spare held fuel 24 cs = some y) :
    ∃ (x : Nt) (A : Option Addr) (n c : Nat), cs = [.int .i64 x.sta, .slice A n c] ∧ n ≤ 9223372036854775807 ∧ Reads w w.heap.size 3 A n (tbs x.tubes) := by
  obtain ⟨n', hfs⟩ := trod_fields Tryz.underlying24 (by kernel_rfl) hl h
  obtain ⟨v0, z0, e0, t0⟩ := hfs 0 _ rfl
  obtain ⟨v1, z1, e1, t1⟩ := hfs 1 _ rfl
  obtain ⟨x0, rfl, g0⟩ := field_int Tryz.underlying2 t0
  obtain ⟨A, m, c, l, ee, hm, hr⟩ := read_tbs t1
  injection ee with ee _
  subst ee
  exact ⟨⟨x0, l⟩, A, m, c, list2 hl e0 e1, hm, hr⟩
set_option maxRecDepth 100000 in
theorem open_dk {r : Reach} {b0 : Nat} {dd : DataW H} {p : List MemPlace} {v : Value} (hv : Value.okWide Tryz.prog w r b0 28 v) (h : DataW.Trod enc Tryz.prog w 0 (fun _ => true) true 28 v dd p) :
    ∃ (hd : DkH) (d : Dk), v = dkv hd d ∧ DkR w w.heap.size hd d ∧ hd.ok ∧ d.log.size ≤ 9223372036854775807 := by
  obtain ⟨cs, rfl, hsz⟩ := okWide_struct Tryz.underlying28 hv
  obtain ⟨fuel, hf⟩ := h
  have hC : Tryz.prog.cellsOf 28 = 5 := by kernel_rfl
  have hl : cs.toList.length = 5 := by rw [Array.length_toList]; exact hsz.trans hC
  obtain ⟨v0, v1, v2, v3, v4, hcs⟩ := len5 hl
  obtain ⟨xs, n', _, _, _, hyl, hfs⟩ := DataW.trod_struct Tryz.underlying28 hf
  have hcs' : (Value.agg cs).cells.toList = [v0, v1, v2, v3, v4] := hcs
  rw [hcs'] at hfs
  have q0 : DataW.trod enc Tryz.prog w 0 (fun _ => true) true n' 24 (([v0, v1, v2, v3, v4].drop 0).take (Tryz.prog.cellsOf 24)) = xs[0]? := hfs 0 _ rfl
  have q1 : DataW.trod enc Tryz.prog w 0 (fun _ => true) true n' 25 (([v0, v1, v2, v3, v4].drop 2).take (Tryz.prog.cellsOf 25)) = xs[1]? := hfs 1 _ rfl
  have q2 : DataW.trod enc Tryz.prog w 0 (fun _ => true) true n' 26 (([v0, v1, v2, v3, v4].drop 3).take (Tryz.prog.cellsOf 26)) = xs[2]? := hfs 2 _ rfl
  have q3 : DataW.trod enc Tryz.prog w 0 (fun _ => true) true n' 9 (([v0, v1, v2, v3, v4].drop 4).take (Tryz.prog.cellsOf 9)) = xs[3]? := hfs 3 _ rfl
  have hx : ∀ i, i < 4 → ∃ z, xs[i]? = some z := fun i hi => ⟨_, List.getElem?_eq_getElem (by rw [hyl]; exact hi)⟩
  obtain ⟨z0, e0⟩ := hx 0 (by decide)
  obtain ⟨z1, e1⟩ := hx 1 (by decide)
  obtain ⟨z2, e2⟩ := hx 2 (by decide)
  obtain ⟨z3, e3⟩ := hx 3 (by decide)
  rw [e0] at q0; rw [e1] at q1; rw [e2] at q2; rw [e3] at q3
  rw [show Tryz.prog.cellsOf 24 = 2 by kernel_rfl] at q0
  rw [show Tryz.prog.cellsOf 25 = 1 by kernel_rfl] at q1
  rw [show Tryz.prog.cellsOf 26 = 1 by kernel_rfl] at q2
  rw [show Tryz.prog.cellsOf 9 = 1 by kernel_rfl] at q3
  simp only [List.drop, List.take] at q0 q1 q2 q3
  obtain ⟨x, A1, n1, c1, f0, hn1, r1⟩ := read_nt rfl q0
  obtain ⟨A2, n2, c2, l2, f1, hn2, r2, _⟩ := read_ints q1
  obtain ⟨A3, n3, c3, l3, f2, hn3, r3, _⟩ := read_runs q2
  obtain ⟨s, rfl, hs⟩ := field_string Tryz.underlying9 q3
  injection f0 with f00 f0; injection f0 with f01 _
  injection f1 with f1 _
  injection f2 with f2 _
  subst f00 f01 f1 f2
  refine ⟨⟨A1, n1, c1, A2, n2, c2, A3, n3, c3⟩, ⟨x, l2, l3, s⟩, ?_, ⟨r1, r2, r3⟩, ⟨hn1, hn2, hn3⟩, by unfold maxLen at hs; exact hs⟩
  have : cs = #[.int .i64 x.sta, .slice A1 n1 c1, .slice A2 n2 c2, .slice A3 n3 c3, .string s] := by
    apply Array.toList_inj.1; exact hcs
  rw [this]
  rfl
end
end Go.Proofs.YtgcepomehgedfaaGreatDoor
