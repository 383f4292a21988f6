/- Booking values: their cells, lists of them, the law's copies, sizes, comparisons and marks. -/
import Derived.Test.YtafbehpgnmdglaaDoorProg
import Derived.Test.YtafbehpgnmdglaaDoorMem
import Derived.Test.YtafbehpgnmdglaaDoorOpen
import Derived.Test.YtafbehpgnmdglaaDoorMark
import Derived.Deep.RegionHeld3
import Derived.BigQuiet
set_option linter.unusedVariables false
namespace Go.Proofs.YtafbehpgnmdglaaDoor
open Go.RowKit Go.ChangeShapes Go.WideShapes Go.Deep

structure Bk where
  day : Int
  client : ByteArray
  amount : Int

def Bk.good (x : Bk) : Prop := I64 x.day ∧ x.client.size ≤ 9223372036854775807 ∧ I64 x.amount
def Bk.small (x : Bk) : Prop := x.client.size ≤ 1048576
def cellsBk (x : Bk) : List Value := [.int .i64 x.day, .string x.client, .int .i64 x.amount]
def bkv (x : Bk) : Value := .agg #[.int .i64 x.day, .string x.client, .int .i64 x.amount]
def bks (l : List Bk) : List Value := l.flatMap cellsBk
theorem bks_length (l : List Bk) : (bks l).length = l.length * 3 := flat_length cellsBk 3 (fun _ => rfl) l
theorem bks_get {l : List Bk} {k : Nat} {x : Bk} (h : l[k]? = some x) : (bks l)[k * 3]? = some (.int .i64 x.day) ∧ (bks l)[k * 3 + 1]? = some (.string x.client) ∧ (bks l)[k * 3 + 2]? = some (.int .i64 x.amount) :=
  ⟨flat_get cellsBk 3 (fun _ => rfl) l k x h 0 (by omega), flat_get cellsBk 3 (fun _ => rfl) l k x h 1 (by omega), flat_get cellsBk 3 (fun _ => rfl) l k x h 2 (by omega)⟩
theorem bks_len {w : World} {B n : Nat} {A : Option Addr} {l : List Bk} (h : Reads w B 3 A n (bks l)) : l.length = n := by
  have := h.1
  rw [bks_length] at this
  omega
theorem bk_at {w : World} {B n k : Nat} {A : Option Addr} {l : List Bk} (h : Reads w B 3 A n (bks l)) (hk : k < n) :
    ∃ (x : Bk) (b off : Nat), l[k]? = some x ∧ A = some ⟨b, off, none⟩ ∧ b < B ∧ w.cell? ⟨b, off + k * 3, none⟩ = some (.int .i64 x.day) ∧ w.cell? ⟨b, off + k * 3 + 1, none⟩ = some (.string x.client) ∧ w.cell? ⟨b, off + k * 3 + 2, none⟩ = some (.int .i64 x.amount) := by
  obtain ⟨b, off, rfl, hb, hcell⟩ := h.at_ (by omega)
  have hl := bks_len h
  have he : l[k]? = some l[k] := List.getElem?_eq_getElem (by omega)
  obtain ⟨e0, e1, e2⟩ := bks_get he
  exact ⟨_, b, off, he, rfl, hb, hcell _ _ e0, hcell _ _ e1, hcell _ _ e2⟩

section
variable {H : Type} {enc : TypeId × Value → H} {w : World}
theorem read_bk {n : Nat} {cs : List Value} {y : DataW H × List MemPlace} {base : Nat} {spare : Nat → Bool} {held : Bool} (hl : cs.length = 3)
    (h : DataW.trod enc Tryd.prog w base spare held n 30 cs = some y) : ∃ x : Bk, cellsBk x = cs ∧ x.good := by
  obtain ⟨n', hfs⟩ := trod_fields Tryd.underlying30 (by kernel_rfl) hl h
  obtain ⟨v0, z0, e0, t0⟩ := hfs 0 _ rfl
  obtain ⟨v1, z1, e1, t1⟩ := hfs 1 _ rfl
  obtain ⟨v2, z2, e2, t2⟩ := hfs 2 _ rfl
  obtain ⟨x0, rfl, g0⟩ := field_int Tryd.underlying2 t0
  obtain ⟨x1, rfl, g1⟩ := field_string Tryd.underlying9 t1
  obtain ⟨x2, rfl, g2⟩ := field_int Tryd.underlying2 t2
  exact ⟨⟨x0, x1, x2⟩, (list3 hl e0 e1 e2).symm, I64_of_wf g0, by unfold maxLen at g1; exact g1, I64_of_wf g2⟩
set_option maxRecDepth 100000 in
theorem open_bk {r : Reach} {b0 : Nat} {d : DataW H} {p : List MemPlace} {v : Value} (hv : Value.okWide Tryd.prog w r b0 30 v) (h : DataW.Trod enc Tryd.prog w 0 (fun _ => true) true 30 v d p) :
    ∃ x : Bk, v = bkv x ∧ x.good := by
  obtain ⟨cs, rfl, hsz⟩ := okWide_struct Tryd.underlying30 hv
  obtain ⟨fuel, hf⟩ := h
  have hC : Tryd.prog.cellsOf 30 = 3 := by kernel_rfl
  have hl : (Value.agg cs).cells.toList.length = 3 := by show cs.toList.length = 3; rw [Array.length_toList]; exact hsz.trans hC
  obtain ⟨x, hx, hg⟩ := read_bk hl hf
  refine ⟨x, ?_, hg⟩
  have : cs = (cellsBk x).toArray := by rw [hx]; simp [Value.cells]
  rw [this]
  rfl
end

theorem szBooking_any (x : Bk) (q : Int) (w : World) (hq0 : 0 ≤ q) (hq : q ≤ 1048576) (hx : x.good) :
    Calls Tryd.prog 19 #[.agg #[.int .i64 x.day, .string x.client, .int .i64 x.amount], .int .i64 q] w fun e w' => ∃ r : Int, e = .returned (.int .i64 r) ∧ Below w.heap.size w w' ∧ (r < 0 ∨ (0 ≤ r ∧ r ≤ q ∧ True ∧ x.small)) := by
  have hz := hx.2.1
  by_cases h : (x.client.size : Int) ≤ q
  · go_enter Tryd.func19, Tryd.ntmps19
    go_wp2
    go_ret
    exact ⟨_, rfl, (Below.refl _ _).alloc (Nat.le_refl _) _, .inr ⟨by omega, by omega, trivial, by unfold Bk.small; omega⟩⟩
  · go_enter Tryd.func19, Tryd.ntmps19
    go_wp2
    go_ret
    exact ⟨_, rfl, (Below.refl _ _).alloc (Nat.le_refl _) _, .inl (by omega)⟩

theorem toBooking_any (x : Bk) (w : World) : Calls Tryd.prog 21 #[.agg #[.int .i64 x.day, .string x.client, .int .i64 x.amount]] w fun e w' => e = .returned (.agg #[.int .i64 x.day, .string x.client, .int .i64 x.amount]) ∧ Below w.heap.size w w' := by
  go_enter Tryd.func21, Tryd.ntmps21
  go_wp2
  exact bodyPost_ret (v := .agg #[.int .i64 x.day, .string x.client, .int .i64 x.amount]) (by simp [results, Tryd.results21, go_sem]) rfl ⟨rfl, ((((Below.refl _ _).alloc (Nat.le_refl _) _).alloc (by simp) _).alloc (by simp; omega) _)⟩
/-- What the marks from k0 on make of element i. -/
def bkMark (k0 i : Nat) : List Value := [.int .i64 ((k0 : Int) + 3 * (i : Int)), .string (mkText (k0 + 3 * i + 1)), .int .i64 ((k0 : Int) + 3 * (i : Int) + 1 + 1)]
def bkMarks (k0 n : Nat) : List Value := (List.range n).flatMap (bkMark k0)
theorem bkMarks_length (k0 n : Nat) : (bkMarks k0 n).length = n * 3 := by rw [bkMarks, flat_length (bkMark k0) 3 (fun _ => rfl)]; simp
theorem bkMarks_get {k0 n k : Nat} (h : k < n) (j : Nat) (hj : j < 3) : (bkMarks k0 n)[k * 3 + j]? = (bkMark k0 k)[j]? := flat_get (bkMark k0) 3 (fun _ => rfl) (List.range n) k k (by simp [h]) j hj
end Go.Proofs.YtafbehpgnmdglaaDoor
