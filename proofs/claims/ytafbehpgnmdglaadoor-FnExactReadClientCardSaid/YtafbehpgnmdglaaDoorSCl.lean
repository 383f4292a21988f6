/- Client values: their cells, lists of them, the law's copies, sizes, comparisons and marks. -/
import Derived.Test.YtafbehpgnmdglaaDoorProg
import Derived.Test.YtafbehpgnmdglaaDoorMem
import Derived.Test.YtafbehpgnmdglaaDoorOpen
import Derived.Test.YtafbehpgnmdglaaDoorMark
import Derived.Deep.RegionHeld3
import Derived.BigQuiet
set_option linter.unusedVariables false
namespace Go.Proofs.YtafbehpgnmdglaaDoor
open Go.RowKit Go.ChangeShapes Go.WideShapes Go.Deep

structure Cl where
  name : ByteArray
  station : Int
  from_ : Int
  to_ : Int
  quota : Int

def Cl.good (x : Cl) : Prop := x.name.size ≤ 9223372036854775807 ∧ I64 x.station ∧ I64 x.from_ ∧ I64 x.to_ ∧ I64 x.quota
def Cl.small (x : Cl) : Prop := x.name.size ≤ 1048576
def cellsCl (x : Cl) : List Value := [.string x.name, .int .i64 x.station, .int .i64 x.from_, .int .i64 x.to_, .int .i64 x.quota]
def clv (x : Cl) : Value := .agg #[.string x.name, .int .i64 x.station, .int .i64 x.from_, .int .i64 x.to_, .int .i64 x.quota]
def cls (l : List Cl) : List Value := l.flatMap cellsCl
theorem cls_length (l : List Cl) : (cls l).length = l.length * 5 := flat_length cellsCl 5 (fun _ => rfl) l
theorem cls_get {l : List Cl} {k : Nat} {x : Cl} (h : l[k]? = some x) : (cls l)[k * 5]? = some (.string x.name) ∧ (cls l)[k * 5 + 1]? = some (.int .i64 x.station) ∧ (cls l)[k * 5 + 2]? = some (.int .i64 x.from_) ∧ (cls l)[k * 5 + 3]? = some (.int .i64 x.to_) ∧ (cls l)[k * 5 + 4]? = some (.int .i64 x.quota) :=
  ⟨flat_get cellsCl 5 (fun _ => rfl) l k x h 0 (by omega), flat_get cellsCl 5 (fun _ => rfl) l k x h 1 (by omega), flat_get cellsCl 5 (fun _ => rfl) l k x h 2 (by omega), flat_get cellsCl 5 (fun _ => rfl) l k x h 3 (by omega), flat_get cellsCl 5 (fun _ => rfl) l k x h 4 (by omega)⟩
theorem cls_len {w : World} {B n : Nat} {A : Option Addr} {l : List Cl} (h : Reads w B 5 A n (cls l)) : l.length = n := by
  have := h.1
  rw [cls_length] at this
  omega
theorem cl_at {w : World} {B n k : Nat} {A : Option Addr} {l : List Cl} (h : Reads w B 5 A n (cls l)) (hk : k < n) :
    ∃ (x : Cl) (b off : Nat), l[k]? = some x ∧ A = some ⟨b, off, none⟩ ∧ b < B ∧ w.cell? ⟨b, off + k * 5, none⟩ = some (.string x.name) ∧ w.cell? ⟨b, off + k * 5 + 1, none⟩ = some (.int .i64 x.station) ∧ w.cell? ⟨b, off + k * 5 + 2, none⟩ = some (.int .i64 x.from_) ∧ w.cell? ⟨b, off + k * 5 + 3, none⟩ = some (.int .i64 x.to_) ∧ w.cell? ⟨b, off + k * 5 + 4, none⟩ = some (.int .i64 x.quota) := by
  obtain ⟨b, off, rfl, hb, hcell⟩ := h.at_ (by omega)
  have hl := cls_len h
  have he : l[k]? = some l[k] := List.getElem?_eq_getElem (by omega)
  obtain ⟨e0, e1, e2, e3, e4⟩ := cls_get he
  exact ⟨_, b, off, he, rfl, hb, hcell _ _ e0, hcell _ _ e1, hcell _ _ e2, hcell _ _ e3, hcell _ _ e4⟩

section
variable {H : Type} {enc : TypeId × Value → H} {w : World}
theorem read_cl {n : Nat} {cs : List Value} {y : DataW H × List MemPlace} {base : Nat} {spare : Nat → Bool} {held : Bool} (hl : cs.length = 5)
    (h : DataW.trod enc Tryd.prog w base spare held n 23 cs = some y) : ∃ x : Cl, cellsCl x = cs ∧ x.good := by
  obtain ⟨n', hfs⟩ := trod_fields Tryd.underlying23 (by kernel_rfl) hl h
  obtain ⟨v0, z0, e0, t0⟩ := hfs 0 _ rfl
  obtain ⟨v1, z1, e1, t1⟩ := hfs 1 _ rfl
  obtain ⟨v2, z2, e2, t2⟩ := hfs 2 _ rfl
  obtain ⟨v3, z3, e3, t3⟩ := hfs 3 _ rfl
  obtain ⟨v4, z4, e4, t4⟩ := hfs 4 _ rfl
  obtain ⟨x0, rfl, g0⟩ := field_string Tryd.underlying9 t0
  obtain ⟨x1, rfl, g1⟩ := field_int Tryd.underlying2 t1
  obtain ⟨x2, rfl, g2⟩ := field_int Tryd.underlying2 t2
  obtain ⟨x3, rfl, g3⟩ := field_int Tryd.underlying2 t3
  obtain ⟨x4, rfl, g4⟩ := field_int Tryd.underlying2 t4
  exact ⟨⟨x0, x1, x2, x3, x4⟩, (list5 hl e0 e1 e2 e3 e4).symm, by unfold maxLen at g0; exact g0, I64_of_wf g1, I64_of_wf g2, I64_of_wf g3, I64_of_wf g4⟩
set_option maxRecDepth 100000 in
theorem open_cl {r : Reach} {b0 : Nat} {d : DataW H} {p : List MemPlace} {v : Value} (hv : Value.okWide Tryd.prog w r b0 23 v) (h : DataW.Trod enc Tryd.prog w 0 (fun _ => true) true 23 v d p) :
    ∃ x : Cl, v = clv x ∧ x.good := by
  obtain ⟨cs, rfl, hsz⟩ := okWide_struct Tryd.underlying23 hv
  obtain ⟨fuel, hf⟩ := h
  have hC : Tryd.prog.cellsOf 23 = 5 := by kernel_rfl
  have hl : (Value.agg cs).cells.toList.length = 5 := by show cs.toList.length = 5; rw [Array.length_toList]; exact hsz.trans hC
  obtain ⟨x, hx, hg⟩ := read_cl hl hf
  refine ⟨x, ?_, hg⟩
  have : cs = (cellsCl x).toArray := by rw [hx]; simp [Value.cells]
  rw [this]
  rfl
end

theorem szClient_any (x : Cl) (q : Int) (w : World) (hq0 : 0 ≤ q) (hq : q ≤ 1048576) (hx : x.good) :
    Calls Tryd.prog 15 #[.agg #[.string x.name, .int .i64 x.station, .int .i64 x.from_, .int .i64 x.to_, .int .i64 x.quota], .int .i64 q] w fun e w' => ∃ r : Int, e = .returned (.int .i64 r) ∧ Below w.heap.size w w' ∧ (r < 0 ∨ (0 ≤ r ∧ r ≤ q ∧ True ∧ x.small)) := by
  have hz := hx.1
  by_cases h : (x.name.size : Int) ≤ q
  · go_enter Tryd.func15, Tryd.ntmps15
    go_wp2
    go_ret
    exact ⟨_, rfl, (Below.refl _ _).alloc (Nat.le_refl _) _, .inr ⟨by omega, by omega, trivial, by unfold Cl.small; omega⟩⟩
  · go_enter Tryd.func15, Tryd.ntmps15
    go_wp2
    go_ret
    exact ⟨_, rfl, (Below.refl _ _).alloc (Nat.le_refl _) _, .inl (by omega)⟩

theorem toClient_any (x : Cl) (w : World) : Calls Tryd.prog 17 #[.agg #[.string x.name, .int .i64 x.station, .int .i64 x.from_, .int .i64 x.to_, .int .i64 x.quota]] w fun e w' => e = .returned (.agg #[.string x.name, .int .i64 x.station, .int .i64 x.from_, .int .i64 x.to_, .int .i64 x.quota]) ∧ Below w.heap.size w w' := by
  go_enter Tryd.func17, Tryd.ntmps17
  go_wp2
  exact bodyPost_ret (v := .agg #[.string x.name, .int .i64 x.station, .int .i64 x.from_, .int .i64 x.to_, .int .i64 x.quota]) (by simp [results, Tryd.results17, go_sem]) rfl ⟨rfl, ((((Below.refl _ _).alloc (Nat.le_refl _) _).alloc (by simp) _).alloc (by simp; omega) _)⟩
theorem eqClient_same (x : Cl) (w : World) : Calls Tryd.prog 39 #[.agg #[.string x.name, .int .i64 x.station, .int .i64 x.from_, .int .i64 x.to_, .int .i64 x.quota], .agg #[.string x.name, .int .i64 x.station, .int .i64 x.from_, .int .i64 x.to_, .int .i64 x.quota]] w fun e w' => e = .returned (.bool true) ∧ Below w.heap.size w w' := by
  go_enter Tryd.func39, Tryd.ntmps39
  go_wp2
  go_ret
  exact ⟨rfl, ((Below.refl _ _).alloc (Nat.le_refl _) _).alloc (by simp) _⟩
/-- What the marks from k0 on make of element i. -/
def clMark (k0 i : Nat) : List Value := [.string (mkText (k0 + 5 * i)), .int .i64 ((k0 : Int) + 5 * (i : Int) + 1), .int .i64 ((k0 : Int) + 5 * (i : Int) + 1 + 1), .int .i64 ((k0 : Int) + 5 * (i : Int) + 1 + 1 + 1), .int .i64 ((k0 : Int) + 5 * (i : Int) + 1 + 1 + 1 + 1)]
def clMarks (k0 n : Nat) : List Value := (List.range n).flatMap (clMark k0)
theorem clMarks_length (k0 n : Nat) : (clMarks k0 n).length = n * 5 := by rw [clMarks, flat_length (clMark k0) 5 (fun _ => rfl)]; simp
theorem clMarks_get {k0 n k : Nat} (h : k < n) (j : Nat) (hj : j < 5) : (clMarks k0 n)[k * 5 + j]? = (clMark k0 k)[j]? := flat_get (clMark k0) 5 (fun _ => rfl) (List.range n) k k (by simp [h]) j hj
end Go.Proofs.YtafbehpgnmdglaaDoor
