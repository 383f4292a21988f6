/- Runs: a way of numbers and a start; lists of them as they lie in memory; opened, sized, copied, compared. -/
import Derived.Test.YtgcepomehgedfaaDoorDkI
set_option linter.unusedVariables false
namespace Go.Proofs.YtgcepomehgedfaaDoor
open Go.RowKit Go.ChangeShapes Go.WideShapes Go.Deep

structure Rn where
  way : List Int
  st : Int
/-- The head of a run: where its way lies, and its start. -/
structure RnH where
  A : Option Addr
  m : Nat
  c : Nat
  st : Int
def cellsRn (h : RnH) : List Value := [.slice h.A h.m h.c, .int .i64 h.st]
def rns (l : List RnH) : List Value := l.flatMap cellsRn
theorem rns_length (l : List RnH) : (rns l).length = l.length * 2 := flat_length cellsRn 2 (fun _ => rfl) l
theorem rns_get {l : List RnH} {k : Nat} {x : RnH} (h : l[k]? = some x) : (rns l)[k * 2]? = some (.slice x.A x.m x.c) ∧ (rns l)[k * 2 + 1]? = some (.int .i64 x.st) :=
  ⟨flat_get cellsRn 2 (fun _ => rfl) l k x h 0 (by omega), flat_get cellsRn 2 (fun _ => rfl) l k x h 1 (by omega)⟩
/-- The head says where the run lies. -/
def RunAt (w : World) (B : Nat) (h : RnH) (r : Rn) : Prop := h.st = r.st ∧ h.m ≤ 9223372036854775807 ∧ Reads w B 1 h.A h.m (ints r.way)
def RunsR (w : World) (B : Nat) (A : Option Addr) (n : Nat) (rs : List Rn) : Prop :=
  ∃ hs : List RnH, Reads w B 2 A n (rns hs) ∧ rs.length = n ∧ ∀ (k : Nat) (h : RnH) (r : Rn), hs[k]? = some h → rs[k]? = some r → RunAt w B h r
section
variable {w w' : World} {B B' n k : Nat} {A : Option Addr} {rs : List Rn} {h : RnH} {r : Rn}
theorem RunAt.on (hr : RunAt w B h r) (hB : B ≤ w.heap.size) (hb : Below w.heap.size w w') : RunAt w' B h r := ⟨hr.1, hr.2.1, hr.2.2.on hB hb⟩
theorem RunAt.more (hr : RunAt w B h r) (hB : B ≤ B') : RunAt w B' h r := ⟨hr.1, hr.2.1, hr.2.2.more hB⟩
theorem RunsR.len (hr : RunsR w B A n rs) : rs.length = n := by obtain ⟨hs, _, h2, _⟩ := hr; exact h2
theorem RunsR.on (hr : RunsR w B A n rs) (hB : B ≤ w.heap.size) (hb : Below w.heap.size w w') : RunsR w' B A n rs := by
  obtain ⟨hs, h1, h2, h3⟩ := hr
  exact ⟨hs, h1.on hB hb, h2, fun k h r e1 e2 => (h3 k h r e1 e2).on hB hb⟩
theorem RunsR.more (hr : RunsR w B A n rs) (hB : B ≤ B') : RunsR w B' A n rs := by
  obtain ⟨hs, h1, h2, h3⟩ := hr
  exact ⟨hs, h1.more hB, h2, fun k h r e1 e2 => (h3 k h r e1 e2).more hB⟩
theorem RunsR.drewN (hr : RunsR w B A n rs) (q : Nat) : RunsR (w.drewN q) B A n rs := by
  obtain ⟨hs, h1, h2, h3⟩ := hr
  exact ⟨hs, h1.keep fun _ _ => rfl, h2, fun k h r e1 e2 => ⟨(h3 k h r e1 e2).1, (h3 k h r e1 e2).2.1, (h3 k h r e1 e2).2.2.keep fun _ _ => rfl⟩⟩
theorem run_at (hr : RunsR w B A n rs) (hk : k < n) : ∃ (r : Rn) (b off : Nat) (A' : Option Addr) (m c : Nat), rs[k]? = some r ∧ A = some ⟨b, off, none⟩ ∧ b < B ∧ w.cell? ⟨b, off + k * 2, none⟩ = some (.slice A' m c) ∧ w.cell? ⟨b, off + k * 2 + 1, none⟩ = some (.int .i64 r.st) ∧ Reads w B 1 A' m (ints r.way) ∧ m ≤ 9223372036854775807 := by
  obtain ⟨hs, h1, h2, h3⟩ := hr
  obtain ⟨b, off, rfl, hb, hcell⟩ := h1.at_ (by omega)
  have hl := h1.1
  rw [rns_length] at hl
  have he : hs[k]? = some (hs[k]'(by omega)) := List.getElem?_eq_getElem (by omega)
  have he' : rs[k]? = some (rs[k]'(by omega)) := List.getElem?_eq_getElem (by omega)
  obtain ⟨e0, e1⟩ := rns_get he
  obtain ⟨r1, r3, r2⟩ := h3 _ _ _ he he'
  exact ⟨_, b, off, _, _, _, he', rfl, hb, hcell _ _ e0, by rw [← r1]; exact hcell _ _ e1, r2, r3⟩
end

theorem ints_flat (l : List Int) : l.flatMap (fun x => [Value.int .i64 x]) = ints l := by
  induction l with
  | nil => rfl
  | cons a l ih => simp [ints] at ih ⊢; exact ih
section
variable {H : Type} {enc : TypeId × Value → H} {w : World}
theorem read_ints {n : Nat} {cs : List Value} {y : DataW H × List MemPlace} {base : Nat} {spare : Nat → Bool} {held : Bool} (h : DataW.trod enc Tryd.prog w base spare held n 25 cs = some y) :
    ∃ (A : Option Addr) (len cap : Nat) (l : List Int), cs = [.slice A len cap] ∧ len ≤ 9223372036854775807 ∧ Reads w w.heap.size 1 A len (ints l) ∧ ∀ x ∈ l, I64 x := by
  obtain ⟨A', len', cap', l, hcs, hn, hr, hg⟩ := open_list (fun x : Int => [Value.int .i64 x]) 1 I64 (fun _ => rfl) Tryd.underlying25 (by kernel_rfl) (by omega) (fun n cs' y hl ht => by
    obtain ⟨v, rfl⟩ := List.length_eq_one_iff.1 hl
    obtain ⟨x0, rfl, hw⟩ := field_int Tryd.underlying2 ht
    exact ⟨x0, rfl, I64_of_wf hw⟩) h
  rw [ints_flat] at hr
  exact ⟨_, _, _, _, hcs, hn, hr, hg⟩
def Rn.good (x : RnH × List Int) (w : World) : Prop := I64 x.1.st ∧ x.1.m ≤ 9223372036854775807 ∧ Reads w w.heap.size 1 x.1.A x.1.m (ints x.2)
end

/-- The ways are short. -/
def SmallR (rs : List Rn) : Prop := ∀ (k : Nat) (r : Rn), rs[k]? = some r → r.way.length ≤ 1048576
end Go.Proofs.YtgcepomehgedfaaDoor
