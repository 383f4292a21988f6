/- The source that the draws read from: a struct in memory, its code elsewhere. -/
import Derived.Test.YtnlghcpidlpfkaaProg
import Derived.Test.YtnlghcpidlpfkaaOpen
import Derived.Laws.Bits64b
set_option linter.unusedVariables false
namespace Go.Proofs.Ytnlghcpidlpfkaa
open Go.RowKit Go.ChangeShapes Go.WideShapes Go.Deep

def byts (l : List Int) : List Value := l.map (.int .u8)
theorem byts_length (l : List Int) : (byts l).length = l.length := by simp [byts]
theorem byts_get {l : List Int} {i : Nat} {x : Int} (h : l[i]? = some x) : (byts l)[i]? = some (.int .u8 x) := by simp [byts, h]
def Byt (x : Int) : Prop := 0 ≤ x ∧ x ≤ 255
theorem byts_flat (l : List Int) : l.flatMap (fun x => [Value.int .u8 x]) = byts l := by
  induction l with
  | nil => rfl
  | cons a l ih => simp [byts] at ih ⊢; exact ih
section
variable {H : Type} {enc : TypeId × Value → H} {w : World}
theorem open_code {d : DataW H} {p : List MemPlace} {A : Option Addr} {len cap : Nat} (h : DataW.Trod enc Try.prog w 0 (fun _ => true) true 87 (.slice A len cap) d p) :
    ∃ l : List Int, len ≤ 9223372036854775807 ∧ Reads w w.heap.size 1 A len (byts l) ∧ ∀ x ∈ l, Byt x := by
  obtain ⟨fuel, hf⟩ := h
  obtain ⟨A', len', cap', l, hcs, hn, hr, hg⟩ := open_list (fun x : Int => [Value.int .u8 x]) 1 Byt (fun _ => rfl) Try.underlying87 (by kernel_rfl) (by omega) (fun n cs' y hl ht => by
    obtain ⟨v, rfl⟩ := List.length_eq_one_iff.1 hl
    obtain ⟨x0, rfl, hw⟩ := field_int Try.underlying5 ht
    exact ⟨x0, rfl, bounds_u8 hw⟩) hf
  simp [Value.cells] at hcs
  obtain ⟨rfl, rfl, rfl⟩ := hcs
  rw [byts_flat] at hr
  exact ⟨l, hn, hr, hg⟩
end

/-- The source lies in block g; it has been asked at most k times; its code lies below it. -/
def Src (g k : Nat) (w : World) : Prop :=
  ∃ (A : Option Addr) (n c : Nat) (bs : List Int) (a : Nat) (sd : Int), Blk w g 218 #[.slice A n c, .int .i64 (a : Int), .int .u64 sd] ∧ Reads w g 1 A n (byts bs) ∧ a ≤ k ∧ (∀ x ∈ bs, Byt x) ∧ n ≤ 9223372036854775807 ∧ 0 ≤ sd ∧ sd ≤ 18446744073709551615
section
variable {g k k' lo hi : Nat} {w w' : World}
theorem Src.lt (h : Src g k w) : g < w.heap.size := by obtain ⟨_, _, _, _, _, _, h, _⟩ := h; exact h.lt
theorem Src.keep (h : Src g k w) (hk : ∀ i, i < g + 1 → w'.heap[i]? = w.heap[i]?) : Src g k w' := by
  obtain ⟨A, n, c, bs, a, sd, h1, h2, h3⟩ := h
  exact ⟨A, n, c, bs, a, sd, (hk g (by omega)).trans h1, h2.keep fun p hp => World.cell?_of_block (hk p.block (by omega)), h3⟩
theorem Src.on (h : Src g k w) (hb : Below w.heap.size w w') : Src g k w' := h.keep fun i hi => hb.block i (by have := h.lt; omega)
theorem Src.below {B : Nat} (h : Src g k w) (hb : Below B w w') (hg : g < B) : Src g k w' := h.keep fun i hi => hb.block i (by omega)
theorem Src.apart (h : Src g k w) (ho : Only lo hi w w') (hg : g < lo) : Src g k w' := h.keep fun i hi => ho.block i (by have := h.lt; omega) (by omega)
theorem Src.more (h : Src g k w) (hk : k ≤ k') : Src g k' w := by
  obtain ⟨A, n, c, bs, a, sd, h1, h2, h3, h4⟩ := h
  exact ⟨A, n, c, bs, a, sd, h1, h2, by omega, h4⟩
theorem Src.alloc (h : Src g k w) (o : Obj) : Src g k (w.alloc o) := h.keep fun i hi => Below.heap_alloc w o i (by have := h.lt; omega)
theorem Src.set_ (h : Src g k w) {p : Addr} (hp : g < p.block) (u : Value) : Src g k (w.setCell p u) := h.keep fun i hi => Below.heap_setCell w p u i (by omega)
end
/-- A cell of a block that is younger. -/
theorem Only.far {lo hi : Nat} {a w : World} (h : Only lo hi a w) {p : Addr} (hp : a.heap.size ≤ p.block) (u : Value) : Only lo hi a (w.setCell p u) :=
  ⟨h.os, h.tape, h.output, by simpa [World.setCell] using h.size, fun i hi' hd => (Below.heap_setCell w p u i (by omega)).trans (h.block i hi' hd)⟩
theorem Only.then {lo hi B : Nat} {a w w' : World} (h : Only lo hi a w) (hb : Below B w w') (hB : a.heap.size ≤ B) : Only lo hi a w' :=
  ⟨hb.os.trans h.os, hb.tape.trans h.tape, hb.output.trans h.output, Nat.le_trans h.size hb.size, fun i hi' hd => (hb.block i (by omega)).trans (h.block i hi' hd)⟩
theorem Sl.farSet {w : World} {lo hi size n c : Nat} {t : TypeId} {A : Option Addr} {xs : List Value} (h : Sl w lo hi t size A n c xs) {p : Addr} (hp : hi ≤ p.block) (u : Value) : Sl (w.setCell p u) lo hi t size A n c xs := h.keep fun b _ h2 _ => Below.heap_setCell w p u b (by omega)
theorem Sl.up {w : World} {lo hi size n c : Nat} {t : TypeId} {A : Option Addr} {xs : List Value} (h : Sl w lo hi t size A n c xs) (o : Obj) : Sl (w.alloc o) lo hi t size A n c xs := h.on ((Below.refl _ _).alloc (Nat.le_refl _) _)
theorem src_new {w : World} {A : Option Addr} {n c : Nat} {bs : List Int} (h : Reads w w.heap.size 1 A n (byts bs)) (hb : ∀ x ∈ bs, Byt x) (hn : n ≤ 9223372036854775807) :
    Src w.heap.size 0 (w.alloc (.cells #[.slice A n c, .int .i64 0, .int .u64 0] 218)) :=
  ⟨A, n, c, bs, 0, 0, Blk.new w _ _, h.on (Nat.le_refl _) ((Below.refl _ _).alloc (Nat.le_refl _) _), Nat.le_refl _, hb, hn, by omega, by omega⟩
/-- What a pick of n numbers may be. -/
def PickR (n x : Int) : Prop := 0 ≤ x ∧ (n ≤ 1 → x = 0) ∧ (1 < n → x < n) ∧ x ≤ 65535
theorem PickR.lt {n x : Int} (h : PickR n x) (hn : 0 < n) : x < n := by
  rcases Int.lt_or_le 1 n with h1 | h1
  · exact h.2.2.1 h1
  · have := h.2.1 h1; omega
theorem pickR_mod {n y : Int} (h0 : 0 ≤ y) (h1 : y ≤ 65535) (hn : 1 < n) : PickR n (y % n) := by
  have a := Int.emod_nonneg y (show n ≠ 0 by omega)
  have b := Int.emod_lt_of_pos y (show 0 < n by omega)
  refine ⟨a, by omega, fun _ => b, ?_⟩
  rcases Int.lt_or_le y n with h | h
  · rw [Int.emod_eq_of_lt h0 h]; exact h1
  · omega
end Go.Proofs.Ytnlghcpidlpfkaa
