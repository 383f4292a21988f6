/- Entry values: their cells, lists of them, the law's copies, sizes, comparisons and marks. -/
import Derived.Test.YtpcdpmbmibimlaaProg
import Derived.Test.YtpcdpmbmibimlaaMem
import Derived.Test.YtpcdpmbmibimlaaOpen
import Derived.Test.YtpcdpmbmibimlaaMark
import Derived.Deep.RegionHeld3
import Derived.BigQuiet
set_option linter.unusedVariables false
namespace Go.Proofs.Ytpcdpmbmibimlaa
open Go.RowKit Go.ChangeShapes Go.WideShapes Go.Deep

structure En where
  day : Int
  what : ByteArray
  val : Int

def En.good (x : En) : Prop := I64 x.day ∧ x.what.size ≤ 9223372036854775807 ∧ I64 x.val
def En.small (x : En) : Prop := x.what.size ≤ 1048576
def cellsEn (x : En) : List Value := [.int .i64 x.day, .string x.what, .int .i64 x.val]
def env (x : En) : Value := .agg #[.int .i64 x.day, .string x.what, .int .i64 x.val]
def ens (l : List En) : List Value := l.flatMap cellsEn
theorem ens_length (l : List En) : (ens l).length = l.length * 3 := flat_length cellsEn 3 (fun _ => rfl) l
theorem ens_get {l : List En} {k : Nat} {x : En} (h : l[k]? = some x) : (ens l)[k * 3]? = some (.int .i64 x.day) ∧ (ens l)[k * 3 + 1]? = some (.string x.what) ∧ (ens l)[k * 3 + 2]? = some (.int .i64 x.val) :=
  ⟨flat_get cellsEn 3 (fun _ => rfl) l k x h 0 (by omega), flat_get cellsEn 3 (fun _ => rfl) l k x h 1 (by omega), flat_get cellsEn 3 (fun _ => rfl) l k x h 2 (by omega)⟩
theorem ens_len {w : World} {B n : Nat} {A : Option Addr} {l : List En} (h : Reads w B 3 A n (ens l)) : l.length = n := by
  have := h.1
  rw [ens_length] at this
  omega
theorem en_at {w : World} {B n k : Nat} {A : Option Addr} {l : List En} (h : Reads w B 3 A n (ens l)) (hk : k < n) :
    ∃ (x : En) (b off : Nat), l[k]? = some x ∧ A = some ⟨b, off, none⟩ ∧ b < B ∧ w.cell? ⟨b, off + k * 3, none⟩ = some (.int .i64 x.day) ∧ w.cell? ⟨b, off + k * 3 + 1, none⟩ = some (.string x.what) ∧ w.cell? ⟨b, off + k * 3 + 2, none⟩ = some (.int .i64 x.val) := by
  obtain ⟨b, off, rfl, hb, hcell⟩ := h.at_ (by omega)
  have hl := ens_len h
  have he : l[k]? = some l[k] := List.getElem?_eq_getElem (by omega)
  obtain ⟨e0, e1, e2⟩ := ens_get he
  exact ⟨_, b, off, he, rfl, hb, hcell _ _ e0, hcell _ _ e1, hcell _ _ e2⟩

section
variable {H : Type} {enc : TypeId × Value → H} {w : World}
theorem read_en {n : Nat} {cs : List Value} {y : DataW H × List MemPlace} {base : Nat} {spare : Nat → Bool} {held : Bool} (hl : cs.length = 3)
    (h : DataW.trod enc Try.prog w base spare held n 28 cs = some y) : ∃ x : En, cellsEn x = cs ∧ x.good := by
  obtain ⟨n', hfs⟩ := trod_fields Try.underlying28 (by kernel_rfl) hl h
  obtain ⟨v0, z0, e0, t0⟩ := hfs 0 _ rfl
  obtain ⟨v1, z1, e1, t1⟩ := hfs 1 _ rfl
  obtain ⟨v2, z2, e2, t2⟩ := hfs 2 _ rfl
  obtain ⟨x0, rfl, g0⟩ := field_int Try.underlying2 t0
  obtain ⟨x1, rfl, g1⟩ := field_string Try.underlying9 t1
  obtain ⟨x2, rfl, g2⟩ := field_int Try.underlying2 t2
  exact ⟨⟨x0, x1, x2⟩, (list3 hl e0 e1 e2).symm, I64_of_wf g0, by unfold maxLen at g1; exact g1, I64_of_wf g2⟩
set_option maxRecDepth 100000 in
theorem open_en {r : Reach} {b0 : Nat} {d : DataW H} {p : List MemPlace} {v : Value} (hv : Value.okWide Try.prog w r b0 28 v) (h : DataW.Trod enc Try.prog w 0 (fun _ => true) true 28 v d p) :
    ∃ x : En, v = env x ∧ x.good := by
  obtain ⟨cs, rfl, hsz⟩ := okWide_struct Try.underlying28 hv
  obtain ⟨fuel, hf⟩ := h
  have hC : Try.prog.cellsOf 28 = 3 := by kernel_rfl
  have hl : (Value.agg cs).cells.toList.length = 3 := by show cs.toList.length = 3; rw [Array.length_toList]; exact hsz.trans hC
  obtain ⟨x, hx, hg⟩ := read_en hl hf
  refine ⟨x, ?_, hg⟩
  have : cs = (cellsEn x).toArray := by rw [hx]; simp [Value.cells]
  rw [this]
  rfl
end

theorem szEntry_any (x : En) (q : Int) (w : World) (hq0 : 0 ≤ q) (hq : q ≤ 1048576) (hx : x.good) :
    Calls Try.prog 20 #[.agg #[.int .i64 x.day, .string x.what, .int .i64 x.val], .int .i64 q] w fun e w' => ∃ r : Int, e = .returned (.int .i64 r) ∧ Below w.heap.size w w' ∧ (r < 0 ∨ (0 ≤ r ∧ r ≤ q ∧ True ∧ x.small)) := by
  have hz := hx.2.1
  by_cases h : (x.what.size : Int) ≤ q
  · go_enter Try.func20, Try.ntmps20
    go_wp2
    go_ret
    exact ⟨_, rfl, (Below.refl _ _).alloc (Nat.le_refl _) _, .inr ⟨by omega, by omega, trivial, by unfold En.small; omega⟩⟩
  · go_enter Try.func20, Try.ntmps20
    go_wp2
    go_ret
    exact ⟨_, rfl, (Below.refl _ _).alloc (Nat.le_refl _) _, .inl (by omega)⟩

theorem toEntry_any (x : En) (w : World) : Calls Try.prog 22 #[.agg #[.int .i64 x.day, .string x.what, .int .i64 x.val]] w fun e w' => e = .returned (.agg #[.int .i64 x.day, .string x.what, .int .i64 x.val]) ∧ Below w.heap.size w w' := by
  go_enter Try.func22, Try.ntmps22
  go_wp2
  exact bodyPost_ret (v := .agg #[.int .i64 x.day, .string x.what, .int .i64 x.val]) (by simp [results, Try.results22, go_sem]) rfl ⟨rfl, ((((Below.refl _ _).alloc (Nat.le_refl _) _).alloc (by simp) _).alloc (by simp; omega) _)⟩
/-- What the marks from k0 on make of element i. -/
def enMark (k0 i : Nat) : List Value := [.int .i64 ((k0 : Int) + 3 * (i : Int)), .string (mkText (k0 + 3 * i + 1)), .int .i64 ((k0 : Int) + 3 * (i : Int) + 1 + 1)]
def enMarks (k0 n : Nat) : List Value := (List.range n).flatMap (enMark k0)
theorem enMarks_length (k0 n : Nat) : (enMarks k0 n).length = n * 3 := by rw [enMarks, flat_length (enMark k0) 3 (fun _ => rfl)]; simp
theorem enMarks_get {k0 n k : Nat} (h : k < n) (j : Nat) (hj : j < 3) : (enMarks k0 n)[k * 3 + j]? = (enMark k0 k)[j]? := flat_get (enMark k0) 3 (fun _ => rfl) (List.range n) k k (by simp [h]) j hj
end Go.Proofs.Ytpcdpmbmibimlaa
