/- Words for memory that the walks share: a slice that reads as a list, a block known whole. No program in sight. A slice that a loop appends to: it lies in one known block of the call's own, or in a block that is younger than the loop. A whole slice appended to a slice of the call's own. Decimal forms of numbers: which texts are such forms. No program in sight. Texts cut at a byte: the plain law. No program in sight. The reference's decimal form of a number. The library's table of powers of ten, carried; the program's decimal form of a number. What a slice that came in is: a list of elements, read at its cells. The text of a mark. Client values: their cells, lists of them, the law's copies, sizes, comparisons and marks. Names: the reference's test and the program's. Ranges: the two range tests and the tests of days that are made of them. Clients: the tests of one client and of a list of clients. Clients as texts, both sides. Entry values: their cells, lists of them, the law's copies, sizes, comparisons and marks. One entry: the tests of it. Entries of the log: their words and stamps, both sides. Slices of strings: the law's comparisons, marks and their reading. -/
import Derived.WalkKit
import Derived.WalkSpells
import Derived.Deep.Draws
import Derived.Lib.Hide
import Derived.Maps.AppendAt
import Derived.Lib.ParseIntBCases
import Derived.Lib.ItoaNum
import Derived.Lib.Split
import Derived.Lib.SplitLaws
import Derived.Lib.CutLaws
import Derived.Test.YtjmlcobbjpmjpaaGreatDoorProg
import Derived.Laws.IdiomStrings
import Derived.IntWalk
import Derived.Test.YtjmlcobbjpmjpaaGreatDoorShelf
import Derived.Lib.LaidTab
import Derived.Deep.Slices
import Derived.Deep.Fields
import Derived.ChangeSame
import Derived.OpenShut
import Derived.WalkLawsBesides
import Derived.Deep.RegionHeld3
import Derived.BigQuiet
import Derived.Deep.QuietTactic
import Derived.Laws.Cover1
set_option linter.unusedVariables false
set_option linter.unusedSimpArgs false
namespace Go.Proofs.YtjmlcobbjpmjpaaGreatDoor
open Go.RowKit

/-- The slice value '.slice A n c' (A: an address or none) holds the cells xs ('size' cells an element), in a block below B. -/
def Reads (w : World) (B size : Nat) (A : Option Addr) (n : Nat) (xs : List Value) : Prop :=
  xs.length = n * size ∧ (0 < n → ∃ ad, A = some ad ∧ ad.spot = none ∧ ad.block < B ∧ ∀ j u, xs[j]? = some u → w.cell? ⟨ad.block, ad.off + j, none⟩ = some u)

/-- Block g is just the cells cs of element type t, none frozen. -/
def Blk (w : World) (g : Nat) (t : TypeId) (cs : Array Value) : Prop := w.heap[g]? = some (.cells cs t (0, 0))

section
variable {w w' : World} {B B' size n : Nat} {A : Option Addr} {xs : List Value}
theorem Reads.none_ : Reads w B size A 0 [] := ⟨by simp, fun h => absurd h (by omega)⟩
theorem Reads.at_ (h : Reads w B size A n xs) (hn : 0 < n) : ∃ b off, A = some ⟨b, off, none⟩ ∧ b < B ∧ ∀ j u, xs[j]? = some u → w.cell? ⟨b, off + j, none⟩ = some u := by
  obtain ⟨⟨b, off, spot⟩, e, hs, hb, hc⟩ := h.2 hn
  simp only at hs
  subst hs
  exact ⟨b, off, e, hb, hc⟩
theorem Reads.keep (h : Reads w B size A n xs) (hk : ∀ p : Addr, p.block < B → w'.cell? p = w.cell? p) : Reads w' B size A n xs :=
  ⟨h.1, fun hn => by
    obtain ⟨ad, e, hs, hb, hc⟩ := h.2 hn
    exact ⟨ad, e, hs, hb, fun j u hu => (hk ⟨ad.block, ad.off + j, none⟩ hb).trans (hc j u hu)⟩⟩
theorem Reads.more (h : Reads w B size A n xs) (hB : B ≤ B') : Reads w B' size A n xs :=
  ⟨h.1, fun hn => by
    obtain ⟨ad, e, hs, hb, hc⟩ := h.2 hn
    exact ⟨ad, e, hs, by omega, hc⟩⟩
theorem Reads.below (h : Reads w B size A n xs) (hb : Below B w w') : Reads w' B size A n xs := h.keep fun _ hp => hb.cell hp
/-- A part of a slice. -/
theorem Reads.sub {b off i m : Nat} (h : Reads w B 1 (some ⟨b, off, none⟩) n xs) (hm : i + m ≤ n) : Reads w B 1 (some ⟨b, off + i, none⟩) m ((xs.drop i).take m) := by
  refine ⟨?_, fun h0 => ?_⟩
  · have := h.1
    rw [List.length_take, List.length_drop]
    omega
  · obtain ⟨ad, e, hs, hb, hc⟩ := h.2 (by omega)
    injection e with e
    subst e
    refine ⟨_, rfl, rfl, hb, fun j u hu => ?_⟩
    rw [List.getElem?_take] at hu
    split at hu
    · rw [List.getElem?_drop] at hu
      have := hc (i + j) u hu
      simpa [Nat.add_assoc] using this
    · cases hu
/-- What was below the heap's size when a call began reads on behind it. -/
theorem Reads.on (h : Reads w B size A n xs) (hB : B ≤ w.heap.size) (hb : Below w.heap.size w w') : Reads w' B size A n xs := h.below (hb.mono hB)
end

section
variable {w w' : World} {g : Nat} {t : TypeId} {cs : Array Value}
theorem Blk.lt (h : Blk w g t cs) : g < w.heap.size := by
  rcases Nat.lt_or_ge g w.heap.size with hlt | hge
  · exact hlt
  · unfold Blk at h; rw [Array.getElem?_eq_none hge] at h; cases h
theorem Blk.cell (h : Blk w g t cs) (i : Nat) : w.cell? ⟨g, i, none⟩ = cs[i]? := cell_of_row w g i cs t (0, 0) h
theorem Blk.cellAt (h : Blk w g t cs) (i : Nat) (hi : i < cs.size) : w.cell? ⟨g, i, none⟩ = some cs[i] := by rw [h.cell, Array.getElem?_eq_getElem hi]
theorem Blk.frozen (h : Blk w g t cs) (i : Nat) : w.frozen? ⟨g, i, none⟩ = false := by
  unfold Blk at h
  simp [World.frozen?, h]
theorem Blk.new (w : World) (t : TypeId) (cs : Array Value) : Blk (w.alloc (.cells cs t)) w.heap.size t cs := heap_alloc_new w _
theorem Blk.drew (h : Blk w g t cs) : Blk w.drew g t cs := h
theorem Blk.drewN (h : Blk w g t cs) (n : Nat) : Blk (w.drewN n) g t cs := h
theorem Blk.alloc (h : Blk w g t cs) (o : Obj) : Blk (w.alloc o) g t cs := (Below.heap_alloc w o g h.lt).trans h
theorem Blk.set_ (h : Blk w g t cs) (i : Nat) (u : Value) : Blk (w.setCell ⟨g, i, none⟩ u) g t (cs.setIfInBounds i u) := by
  unfold Blk at h ⊢
  simp [World.setCell, Array.getElem?_modify, h]
theorem Blk.far (h : Blk w g t cs) {p : Addr} (hp : g ≠ p.block) (u : Value) : Blk (w.setCell p u) g t cs := (Below.heap_setCell w p u g hp).trans h
theorem Blk.below {B : Nat} (h : Blk w g t cs) (hb : Below B w w') (hg : g < B) : Blk w' g t cs := (hb.block g hg).trans h
/-- A block stands behind a call that turned nothing that was there. -/
theorem Blk.on (h : Blk w g t cs) (hb : Below w.heap.size w w') : Blk w' g t cs := h.below hb h.lt
theorem Blk.grown {row : Option Nat} (h : Blk w g t cs) (hb : w.grownBy w' row) (hg : some g ≠ row) : Blk w' g t cs := (hb.block g h.lt hg).trans h
theorem Blk.reads (h : Blk w g t cs) {B size n : Nat} (hg : g < B) (hn : cs.size = n * size) : Reads w B size (some ⟨g, 0, none⟩) n cs.toList :=
  ⟨by simpa using hn, fun _ => ⟨_, rfl, rfl, hg, fun j u hu => by
    simp only [Nat.zero_add]
    rw [h.cell j]
    simpa using hu⟩⟩
/-- The block as a slice that reads as the list xs, below the heap's size. -/
theorem Blk.readsL {xs : List Value} (h : Blk w g t xs.toArray) {size n : Nat} (hn : xs.length = n * size) : Reads w w.heap.size size (some ⟨g, 0, none⟩) n xs :=
  h.reads h.lt (by simpa using hn)
end

/-- Of what was there only the blocks from lo on and below hi may have turned. -/
structure Only (lo hi : Nat) (w w' : World) : Prop where
  os : w'.os = w.os
  tape : w'.tape = w.tape
  output : w'.output = w.output
  size : w.heap.size ≤ w'.heap.size
  block : ∀ k, k < w.heap.size → (k < lo ∨ hi ≤ k) → w'.heap[k]? = w.heap[k]?
section
variable {lo hi lo' hi' B : Nat} {a b w w' : World}
theorem Only.refl (lo hi : Nat) (w : World) : Only lo hi w w := ⟨rfl, rfl, rfl, Nat.le_refl _, fun _ _ _ => rfl⟩
theorem Only.of_below (h : Below w.heap.size w w') (lo hi : Nat) : Only lo hi w w' := ⟨h.os, h.tape, h.output, h.size, fun k hk _ => h.block k hk⟩
theorem Only.trans (h : Only lo hi a b) (k : Only lo hi b w) : Only lo hi a w :=
  ⟨k.os.trans h.os, k.tape.trans h.tape, k.output.trans h.output, Nat.le_trans h.size k.size, fun i hi hne => (k.block i (Nat.lt_of_lt_of_le hi h.size) hne).trans (h.block i hi hne)⟩
theorem Only.wide (h : Only lo hi w w') (h1 : lo' ≤ lo) (h2 : hi ≤ hi') : Only lo' hi' w w' := ⟨h.os, h.tape, h.output, h.size, fun k hk hd => h.block k hk (by omega)⟩
theorem Only.setCell (h : Only lo hi a w) {p : Addr} (h1 : lo ≤ p.block) (h2 : p.block < hi) (u : Value) : Only lo hi a (w.setCell p u) :=
  ⟨h.os, h.tape, h.output, by simpa [World.setCell] using h.size, fun i hi' hd => (Below.heap_setCell w p u i (by omega)).trans (h.block i hi' hd)⟩
theorem Only.alloc (h : Only lo hi a w) (o : Obj) : Only lo hi a (w.alloc o) :=
  ⟨h.os, h.tape, h.output, Nat.le_trans h.size (by simp), fun i hi' hd => (Below.heap_alloc w o i (Nat.lt_of_lt_of_le hi' h.size)).trans (h.block i hi' hd)⟩
theorem Only.drewN (h : Only lo hi a w) (n : Nat) : Only lo hi a (w.drewN n) := ⟨h.os, h.tape, h.output, h.size, h.block⟩
theorem Only.below (h : Only lo hi w w') (hlo : B ≤ lo) (hB : B ≤ w.heap.size) : Below B w w' := ⟨h.os, h.tape, h.output, h.size, fun k hk => h.block k (by omega) (by omega)⟩
theorem below_drewN (h : Below B a w) (n : Nat) : Below B a (w.drewN n) := ⟨h.os, h.tape, h.output, h.size, h.block⟩
/-- What a cell holds it holds behind a call that turned nothing that was there. -/
theorem cell_on {p : Addr} {v : Value} (hb : Below w.heap.size w w') (h : w.cell? p = some v) : w'.cell? p = some v := (hb.cell (World.block_lt_of_cell? w _ h)).trans h
/-- One call behind another: what the second leaves alone is all that the first left. -/
theorem bnext (h : Below B a w) (k : Below w.heap.size w w') (hB : B ≤ a.heap.size) : Below B a w' := h.trans (k.mono (Nat.le_trans hB h.size))
theorem bonly (h : Below B a w) (k : Only lo hi w w') (hlo : B ≤ lo) (hB : B ≤ a.heap.size) : Below B a w' := h.trans (k.below hlo (Nat.le_trans hB h.size))
end

/-- A slice value '.slice A n c' of the call's own: nil, or the head of a row in a block from lo on and below hi; its first cells are xs. -/
def Sl (w : World) (lo hi : Nat) (t : TypeId) (size : Nat) (A : Option Addr) (n c : Nat) (xs : List Value) : Prop :=
  w.ownsRow lo t size (.slice A n c) n xs ∧ ∀ b, A = some b → b.block < hi
section
variable {w w' : World} {lo hi lo' hi' size n c : Nat} {t : TypeId} {A : Option Addr} {xs : List Value}
theorem Sl.nil (w : World) (lo hi : Nat) (t : TypeId) (size : Nat) : Sl w lo hi t size none 0 0 [] := ⟨World.ownsRow_nil _ _ _ _, fun b h => by cases h⟩
theorem Sl.len (h : Sl w lo hi t size A n c xs) : xs.length = n * size := h.1.1
/-- What there is of a slice that is not nil. -/
theorem Sl.form (h : Sl w lo hi t size A n c xs) : (A = none ∧ n = 0 ∧ c = 0) ∨ ∃ g cur, A = some ⟨g, 0, none⟩ ∧ lo ≤ g ∧ g < hi ∧ Blk w g t cur ∧ n ≤ c ∧ cur.size = c * size ∧ cur.toList.take (n * size) = xs := by
  rcases h.1.2 with ⟨h', hn⟩ | ⟨g, cap, cur, h', hb, hg, hnc, _, hcs, ht⟩
  · injection h' with h1 h2 h3; exact .inl ⟨h1, hn, h3⟩
  · injection h' with h1 h2 h3; subst h3; exact .inr ⟨g, cur, h1, hb, h.2 _ h1, hg, hnc, hcs, ht⟩
theorem Sl.reads (h : Sl w lo hi t size A n c xs) {B : Nat} (hB : hi ≤ B) : Reads w B size A n xs := by
  refine ⟨h.len, fun hn => ?_⟩
  rcases h.form with ⟨_, h0, _⟩ | ⟨g, cur, rfl, _, hg, hblk, _, _, ht⟩
  · omega
  · refine ⟨_, rfl, rfl, by simp; omega, fun j u hu => ?_⟩
    simp only [Nat.zero_add]
    rw [hblk.cell, ← Array.getElem?_toList]
    rw [← ht, List.getElem?_take] at hu
    split at hu
    · exact hu
    · cases hu
theorem Sl.keep (h : Sl w lo hi t size A n c xs) (hk : ∀ b, lo ≤ b → b < hi → b < w.heap.size → w'.heap[b]? = w.heap[b]?) : Sl w' lo hi t size A n c xs := by
  refine ⟨⟨h.1.1, ?_⟩, h.2⟩
  rcases h.1.2 with hn | ⟨g, cap, cur, h', hb, hg, rest⟩
  · exact .inl hn
  · refine .inr ⟨g, cap, cur, h', hb, ?_, rest⟩
    injection h' with h1
    rw [hk g hb (h.2 _ h1) (Array.getElem?_eq_some_iff.1 hg).1]
    exact hg
theorem Sl.on (h : Sl w lo hi t size A n c xs) (hb : Below w.heap.size w w') : Sl w' lo hi t size A n c xs := h.keep fun b _ _ hb' => hb.block b hb'
theorem Sl.apart (h : Sl w lo hi t size A n c xs) (ho : Only lo' hi' w w') (hd : hi ≤ lo' ∨ hi' ≤ lo) : Sl w' lo hi t size A n c xs := h.keep fun b h1 h2 h3 => ho.block b h3 (by omega)
theorem Sl.wide (h : Sl w lo hi t size A n c xs) (h1 : lo' ≤ lo) (h2 : hi ≤ hi') : Sl w lo' hi' t size A n c xs := by
  refine ⟨⟨h.1.1, ?_⟩, fun b hb => Nat.lt_of_lt_of_le (h.2 b hb) h2⟩
  rcases h.1.2 with hn | ⟨g, cap, cur, h', hb, rest⟩
  · exact .inl hn
  · exact .inr ⟨g, cap, cur, h', Nat.le_trans h1 hb, rest⟩
theorem Sl.of_blk {g : Nat} (h : Blk w g t xs.toArray) (h1 : lo ≤ g) (h2 : g < hi) (hn : xs.length = n * size) (hm : n ≤ maxLen) : Sl w lo hi t size (some ⟨g, 0, none⟩) n n xs :=
  ⟨⟨hn, .inr ⟨g, n, xs.toArray, rfl, h1, h, Nat.le_refl _, hm, by simpa using hn, by simp [← hn]⟩⟩, fun b hb => by injection hb with hb; subst hb; exact h2⟩
theorem Sl.set_ {g : Nat} (h : Sl w lo hi t size (some ⟨g, 0, none⟩) n c xs) (j : Nat) (u : Value) : Sl (w.setCell ⟨g, j, none⟩ u) lo hi t size (some ⟨g, 0, none⟩) n c (xs.set j u) := by
  obtain ⟨⟨h1, h2⟩, h3⟩ := h
  rcases h2 with ⟨h', _⟩ | ⟨g', cap, cur, h', hb, hg, hnc, hm, hcs, ht⟩
  · cases h'
  · injection h' with e1 e2 e3
    injection e1 with e1
    injection e1 with e1
    subst e1 e3
    refine ⟨⟨by simpa using h1, .inr ⟨g, c, cur.setIfInBounds j u, rfl, hb, heap_setCell_same w g j cur t u hg, hnc, hm, by simpa using hcs, ?_⟩⟩, h3⟩
    rw [Array.toList_setIfInBounds, ← ht, List.take_set]
theorem Sl.cellAt {g : Nat} (h : Sl w lo hi t size (some ⟨g, 0, none⟩) n c xs) (j : Nat) (hj : j < n * size) : w.cell? ⟨g, j, none⟩ = xs[j]? := h.1.cellAt j hj
theorem Sl.frozenAt {g : Nat} (h : Sl w lo hi t size (some ⟨g, 0, none⟩) n c xs) (j : Nat) : w.frozen? ⟨g, j, none⟩ = false := h.1.frozenAt j
theorem Sl.lt (h : Sl w lo hi t size A n c xs) (hn : 0 < n) : ∃ g, A = some ⟨g, 0, none⟩ ∧ lo ≤ g ∧ g < hi ∧ g < w.heap.size := by
  rcases h.form with ⟨_, h0, _⟩ | ⟨g, cur, rfl, h1, h2, hb, _⟩
  · omega
  · exact ⟨g, rfl, h1, h2, hb.lt⟩
end

/-- The first m cells are those of xs. -/
def Fill (cs : Array Value) (xs : List Value) (m : Nat) : Prop := ∀ j, j < m → cs[j]? = xs[j]?
theorem Fill.zero (cs : Array Value) (xs : List Value) : Fill cs xs 0 := fun j hj => by omega
theorem Fill.step {cs : Array Value} {xs : List Value} {m : Nat} {v : Value} (h : Fill cs xs m) (hx : xs[m]? = some v) (hm : m < cs.size) : Fill (cs.setIfInBounds m v) xs (m + 1) := by
  intro j hj
  rw [Array.getElem?_setIfInBounds]
  by_cases e : m = j
  · subst e; rw [if_pos rfl, if_pos hm, hx]
  · rw [if_neg e]; exact h j (by omega)
theorem Fill.done {cs : Array Value} {xs : List Value} {m : Nat} (h : Fill cs xs m) (h1 : cs.size = m) (h2 : xs.length = m) : cs = xs.toArray := by
  apply Array.ext_getElem?
  intro i
  by_cases hi : i < m
  · rw [h i hi]; simp
  · rw [Array.getElem?_eq_none (by omega)]; simp; omega

/-- The same of two lists. -/
def FillL (ys xs : List Value) (m : Nat) : Prop := ∀ j, j < m → ys[j]? = xs[j]?
theorem FillL.zero (ys xs : List Value) : FillL ys xs 0 := fun j hj => by omega
theorem FillL.step {ys xs : List Value} {m : Nat} {v : Value} (h : FillL ys xs m) (hx : xs[m]? = some v) (hm : m < ys.length) : FillL (ys.set m v) xs (m + 1) := by
  intro j hj
  rw [List.getElem?_set]
  by_cases e : m = j
  · subst e; rw [if_pos rfl, if_pos hm, hx]
  · rw [if_neg e]; exact h j (by omega)
theorem FillL.done {ys xs : List Value} {m : Nat} (h : FillL ys xs m) (h1 : ys.length = m) (h2 : xs.length = m) : ys = xs := by
  apply List.ext_getElem?
  intro i
  by_cases hi : i < m
  · exact h i hi
  · rw [List.getElem?_eq_none (by omega), List.getElem?_eq_none (by omega)]
theorem list_at {ys : List Value} {j : Nat} (h : j < ys.length) : ∃ v, ys[j]? = some v := ⟨_, List.getElem?_eq_getElem h⟩
/-- Lists of elements of m cells each. -/
theorem flat_length {α : Type} (cell : α → List Value) (m : Nat) (hm : ∀ e, (cell e).length = m) : ∀ l : List α, (l.flatMap cell).length = l.length * m
  | [] => by simp
  | a :: l => by
    have := flat_length cell m hm l
    rw [List.flatMap_cons, List.length_append, hm, this, List.length_cons, Nat.succ_mul]
    omega
theorem flat_get {α : Type} (cell : α → List Value) (m : Nat) (hm : ∀ e, (cell e).length = m) : ∀ (l : List α) (i : Nat) (e : α), l[i]? = some e → ∀ j, j < m → (l.flatMap cell)[i * m + j]? = (cell e)[j]?
  | [], i, e, h, j, hj => by simp at h
  | a :: l, 0, e, h, j, hj => by
    simp at h; subst h
    rw [List.flatMap_cons, List.getElem?_append_left (by rw [hm]; omega)]
    simp
  | a :: l, i + 1, e, h, j, hj => by
    have := flat_get cell m hm l i e (by simpa using h) j hj
    rw [List.flatMap_cons, List.getElem?_append_right (by rw [hm, Nat.succ_mul]; omega), hm, ← this]
    congr 1
    rw [Nat.succ_mul]
    omega

def ints (l : List Int) : List Value := l.map (.int .i64)
theorem ints_length (l : List Int) : (ints l).length = l.length := by simp [ints]
theorem ints_get {l : List Int} {i : Nat} {x : Int} (h : l[i]? = some x) : (ints l)[i]? = some (.int .i64 x) := by simp [ints, h]
def strs (l : List ByteArray) : List Value := l.map .string
theorem strs_length (l : List ByteArray) : (strs l).length = l.length := by simp [strs]
theorem strs_get {l : List ByteArray} {i : Nat} {x : ByteArray} (h : l[i]? = some x) : (strs l)[i]? = some (.string x) := by simp [strs, h]

theorem ints_cell {w : World} {g m : Nat} {t : TypeId} {hs : List Int} {x : Int} (h : Blk w g t (ints hs).toArray) (hx : hs[m]? = some x) : w.cell? ⟨g, m, none⟩ = some (.int .i64 x) := by
  rw [h.cell]; simp [ints, hx]
theorem ints_set {w : World} {g : Nat} {t : TypeId} {hs : List Int} (h : Blk w g t (ints hs).toArray) (m : Nat) (y : Int) : Blk (w.setCell ⟨g, m, none⟩ (.int .i64 y)) g t (ints (hs.set m y)).toArray := by
  have := h.set_ m (.int .i64 y)
  rw [List.setIfInBounds_toArray] at this
  simpa [ints, List.map_set] using this
/-- Zeros; numbers that follow one another from 1 on. -/
def zer (n : Nat) : List Int := List.replicate n 0
theorem zer_length (n : Nat) : (zer n).length = n := by simp [zer]
theorem zer_get {n i : Nat} {x : Int} (h : (zer n)[i]? = some x) : x = 0 := by
  have := List.mem_of_getElem? h
  simp [zer] at this
  exact this.2
def marks (n : Nat) : List Int := (List.range n).map fun (j : Nat) => 1 + (j : Int)
theorem marks_length (n : Nat) : (marks n).length = n := by simp [marks]
theorem marks_get {n i : Nat} (h : i < n) : (marks n)[i]? = some (1 + (i : Int)) := by simp [marks, h]
theorem made_zer (n : Nat) : madeCells #[.int .i64 0] n = (ints (zer n)).toArray := by
  apply Array.ext'
  rw [toList_madeCells_one]
  simp [ints, zer]

theorem run_make_rowN {P : Program} (t e : TypeId) (i : TypeInfo) (z : Value) (ht : P.underlying t = some (.slice e)) (hi : P.info? e = some i) (hz : i.zero = some z)
    (kl kc : IntKind) (n c : Nat) (hnc : n ≤ c) (hbytes : i.bytes * c ≤ 281474976710656) (h63 : c ≤ 9223372036854775807) (w : World) :
    (Instr.makeSlice t (.int kl (n : Int)) (.int kc (c : Int))).run P w = .ok (.slice (some ⟨w.heap.size, 0, none⟩) n c) (w.alloc (.cells (madeCells z.cells (c * i.size)) e)) := by
  have hb : (i.bytes : Int) * (c : Int) ≤ 281474976710656 := by
    have h : ((i.bytes * c : Nat) : Int) ≤ 281474976710656 := by omega
    rwa [Int.natCast_mul] at h
  have hr := run_make (P := P) w t e i z ht hi hz kl kc n c (by omega) (by omega) hb (by omega)
  simp only [Int.toNat_natCast] at hr
  exact hr

/-- 'make([]T, n)' of a small n, at one program's types. -/
theorem run_make_small {P : Program} (t e : TypeId) (z : Value) (size bytes : Nat) (ht : P.underlying t = some (.slice e))
    (hinfo : (P.info? e).map (fun i => (i.zero, i.size, i.bytes)) = some (some z, size, bytes)) (hb : bytes ≤ 1000) (n : Nat) (hn : n ≤ 1048576) :
    ∀ w : World, (Instr.makeSlice t (.int .i64 (n : Int)) (.int .i64 (n : Int))).run P w = .ok (.slice (some ⟨w.heap.size, 0, none⟩) n n) (w.alloc (.cells (madeCells z.cells (n * size)) e)) := by
  obtain ⟨i, hi, hz, rfl, rfl⟩ := info_parts hinfo
  intro w
  refine run_make_rowN t e i z ht hi hz _ _ n n (Nat.le_refl _) ?_ (by omega) w
  calc i.bytes * n ≤ 1000 * 1048576 := Nat.mul_le_mul hb hn
    _ ≤ 281474976710656 := by decide

/-- A number in a range, as the program asks it; a plain definition, so that the walk leaves it alone. -/
def inR (n lo hi : Int) : Bool := decide (lo ≤ n) && decide (n ≤ hi)
theorem inR_true {n lo hi : Int} : inR n lo hi = true ↔ lo ≤ n ∧ n ≤ hi := by simp [inR]
theorem inR_false {n lo hi : Int} : inR n lo hi = false ↔ n < lo ∨ hi < n := by simp [inR]; omega

/-- The first k elements all meet p. -/
def AllTo {α : Type} (p : α → Bool) (l : List α) (k : Nat) : Prop := ∀ (j : Nat) (e : α), j < k → l[j]? = some e → p e = true
section
variable {α : Type} {p : α → Bool} {l : List α} {k : Nat} {e : α}
theorem AllTo.zero (p : α → Bool) (l : List α) : AllTo p l 0 := fun j _ hj _ => by omega
theorem AllTo.step (h : AllTo p l k) (he : l[k]? = some e) (hp : p e = true) : AllTo p l (k + 1) := fun j x hj hx => by
  by_cases hjk : j = k
  · subst hjk; rw [he] at hx; injection hx with hx; subst hx; exact hp
  · exact h j x (by omega) hx
theorem AllTo.done (h : AllTo p l k) (hk : l.length = k) : l.all p = true := by
  rw [List.all_eq_true]
  intro x hx
  obtain ⟨j, hj, rfl⟩ := List.mem_iff_getElem.1 hx
  exact h j _ (by omega) (List.getElem?_eq_getElem hj)
theorem all_bad (he : l[k]? = some e) (hp : p e = false) : l.all p = false := by
  rw [List.all_eq_false]
  exact ⟨e, List.mem_of_getElem? he, by simp [hp]⟩
theorem any_of (he : l[k]? = some e) (hp : p e = true) : l.any p = true := List.any_eq_true.2 ⟨e, List.mem_of_getElem? he, hp⟩
theorem any_none (h : AllTo (fun x => !p x) l k) (hk : l.length = k) : l.any p = false := by
  have := h.done hk
  rw [List.any_eq_false]
  intro x hx
  have := List.all_eq_true.1 this x hx
  simpa using this
end
theorem AllTo.imp {α : Type} {p q : α → Bool} {l : List α} {k : Nat} (h : AllTo p l k) (hi : ∀ x, p x = true → q x = true) : AllTo q l k := fun j e hj he => hi _ (h j e hj he)
/-- The place of the first element that meets p, as the program tells it. -/
def idxI {α : Type} (p : α → Bool) (l : List α) : Int := match l.findIdx? p with
  | some i => i
  | none => -1
theorem idxI_found {α : Type} {p : α → Bool} {l : List α} {k : Nat} {e : α} (he : l[k]? = some e) (hp : p e = true) (h : AllTo (fun x => !p x) l k) : idxI p l = k := by
  have : l.findIdx? p = some k := by
    rw [List.findIdx?_eq_some_iff_getElem]
    obtain ⟨hk, rfl⟩ := List.getElem?_eq_some_iff.1 he
    refine ⟨hk, hp, fun j hj => ?_⟩
    have := h j _ hj (List.getElem?_eq_getElem (by omega))
    simpa using this
  simp [idxI, this]
theorem idxI_none {α : Type} {p : α → Bool} {l : List α} {k : Nat} (h : AllTo (fun x => !p x) l k) (hk : l.length = k) : idxI p l = -1 := by
  have : l.findIdx? p = none := by
    rw [List.findIdx?_eq_none_iff]
    intro x hx
    have := List.all_eq_true.1 (h.done hk) x hx
    simpa using this
  simp [idxI, this]
theorem idxI_nonneg {α : Type} (p : α → Bool) (l : List α) : decide (0 ≤ idxI p l) = l.any p := by
  unfold idxI
  split
  · rename_i i h
    obtain ⟨hk, hp, _⟩ := List.findIdx?_eq_some_iff_getElem.1 h
    rw [List.any_eq_true.2 ⟨_, List.getElem_mem hk, hp⟩]
    simp
  · rename_i h
    rw [List.findIdx?_eq_none_iff] at h
    rw [List.any_eq_false.2 (fun x hx => by simp [h x hx])]
    simp
/-- A number that int64 holds. -/
def I64 (x : Int) : Prop := -9223372036854775808 ≤ x ∧ x ≤ 9223372036854775807
theorem ret_bool {a b : Bool} (h : a = b) : Ending.returned (.bool a) = .returned (.bool b) := by rw [h]
theorem ret_int {k : IntKind} {a b : Int} (h : a = b) : Ending.returned (.int k a) = .returned (.int k b) := by rw [h]
end Go.Proofs.YtjmlcobbjpmjpaaGreatDoor
namespace Go.Proofs.YtjmlcobbjpmjpaaGreatDoor
open Go.RowKit

/-- Behind w the world wr is as w was below block z, but for block b0; '.slice A m c' holds xs, in block b0 or from z on. -/
structure Acc (b0 z : Nat) (t : TypeId) (size : Nat) (w wr : World) (A : Option Addr) (m c : Nat) (xs : List Value) : Prop where
  own : wr.ownsRow 0 t size (.slice A m c) m xs
  at_ : ∀ a, A = some a → a.block = b0 ∨ z ≤ a.block
  os : wr.os = w.os
  tape : wr.tape = w.tape
  output : wr.output = w.output
  size : w.heap.size ≤ wr.heap.size
  block : ∀ k, k < z → k ≠ b0 → wr.heap[k]? = w.heap[k]?

section
variable {b0 z size m c : Nat} {t : TypeId} {w wr : World} {A : Option Addr} {xs : List Value}
theorem own_base0 {w : World} {base : Nat} {e : TypeId} {size : Nat} {v : Value} {n : Nat} {xs : List Value} (h : w.ownsRow base e size v n xs) : w.ownsRow 0 e size v n xs := by
  refine ⟨h.1, ?_⟩
  rcases h.2 with hn | ⟨g, cap, cur, h', hb, rest⟩
  · exact .inl hn
  · exact .inr ⟨g, cap, cur, h', Nat.zero_le _, rest⟩
theorem Acc.nil (w : World) (t : TypeId) (size : Nat) : Acc w.heap.size w.heap.size t size w w none 0 0 [] :=
  ⟨World.ownsRow_nil _ _ _ _, fun a h => (by cases h), rfl, rfl, rfl, Nat.le_refl _, fun _ _ _ => rfl⟩
/-- An empty slice just made. -/
theorem Acc.made (w : World) (t : TypeId) (size : Nat) : Acc w.heap.size w.heap.size t size w (w.alloc (.cells #[] t)) (some ⟨w.heap.size, 0, none⟩) 0 0 [] :=
  ⟨World.ownsRow_made w #[] 0 (Nat.zero_le _) (Nat.zero_le _) (by simp), fun a h => by injection h with h; subst h; exact .inr (Nat.le_refl _), rfl, rfl, rfl, by simp, fun k hk _ => Below.heap_alloc w _ k hk⟩
theorem Sl.made (w : World) (t : TypeId) (size : Nat) : Sl (w.alloc (.cells #[] t)) w.heap.size (w.heap.size + 1) t size (some ⟨w.heap.size, 0, none⟩) 0 0 [] :=
  ⟨World.ownsRow_made w #[] 0 (Nat.le_refl _) (Nat.zero_le _) (by simp), fun a h => by injection h with h; subst h; simp⟩
theorem Acc.start {lo hi : Nat} (h : Sl w lo hi t size A m c xs) (hA : ∀ a, A = some a → a.block = b0) (z : Nat) : Acc b0 z t size w w A m c xs :=
  ⟨own_base0 h.1, fun a ha => .inl (hA a ha), rfl, rfl, rfl, Nat.le_refl _, fun _ _ _ => rfl⟩
theorem Acc.len (h : Acc b0 z t size w wr A m c xs) : xs.length = m * size := h.own.1
/-- What stood below z, and not in block b0, stands. -/
theorem Acc.reads {B : Nat} {A' : Option Addr} {n size' : Nat} {ys : List Value} (h : Acc b0 z t size w wr A m c xs) (hr : Reads w B size' A' n ys) (hB : B ≤ z) (hne : B ≤ b0) : Reads wr B size' A' n ys :=
  hr.keep fun p hp => World.cell?_of_block (h.block p.block (by omega) (by omega))
theorem Acc.readsNe {B g : Nat} {n size' : Nat} {ys : List Value} (h : Acc b0 z t size w wr A m c xs) (hr : Reads w B size' (some ⟨g, 0, none⟩) n ys) (hB : B ≤ z) (hne : g ≠ b0) : Reads wr B size' (some ⟨g, 0, none⟩) n ys :=
  ⟨hr.1, fun hn => by
    obtain ⟨ad, e, hs, hb, hc⟩ := hr.2 hn
    injection e with e
    subst e
    exact ⟨_, rfl, hs, hb, fun j u hu => (World.cell?_of_block (h.block g (by simp at hb; omega) hne)).trans (hc j u hu)⟩⟩
theorem Acc.cell {p : Addr} (h : Acc b0 z t size w wr A m c xs) (hp : p.block < z) (hne : p.block ≠ b0) : wr.cell? p = w.cell? p := World.cell?_of_block (h.block p.block hp hne)
theorem Acc.frozen {p : Addr} (h : Acc b0 z t size w wr A m c xs) (hp : p.block < z) (hne : p.block ≠ b0) : wr.frozen? p = w.frozen? p := World.frozen?_of_block (h.block p.block hp hne)
theorem Acc.below {B : Nat} (h : Acc b0 z t size w wr A m c xs) (h1 : B ≤ b0) (h2 : B ≤ z) : Below B w wr := ⟨h.os, h.tape, h.output, h.size, fun k hk => h.block k (by omega) (by omega)⟩
theorem Acc.sl {lo : Nat} (h : Acc b0 z t size w wr A m c xs) (h1 : lo ≤ b0) (h2 : lo ≤ z) : Sl wr lo wr.heap.size t size A m c xs := by
  refine ⟨⟨h.own.1, ?_⟩, fun b hb => ?_⟩
  · rcases h.own.2 with hn | ⟨g, cap, cur, h', hb, rest⟩
    · exact .inl hn
    · refine .inr ⟨g, cap, cur, h', ?_, rest⟩
      injection h' with e1
      rcases h.at_ _ e1 with e | e <;> simp at e <;> omega
  · have := h.own.lt b.block (by subst hb; rfl)
    exact this.2
/-- The same, seen from the world as it stands. -/
theorem Acc.rebase (h : Acc b0 z t size w wr A m c xs) : Acc b0 z t size wr wr A m c xs := ⟨h.own, h.at_, rfl, rfl, rfl, Nat.le_refl _, fun _ _ _ => rfl⟩
theorem Acc.setOther {p : Addr} (h : Acc b0 z t size w wr A m c xs) (hp : p.block < z) (hne : p.block ≠ b0) (u : Value) : Acc b0 z t size (wr.setCell p u) (wr.setCell p u) A m c xs := by
  refine ⟨?_, h.at_, rfl, rfl, rfl, Nat.le_refl _, fun _ _ _ => rfl⟩
  refine ⟨h.own.1, ?_⟩
  rcases h.own.2 with hn | ⟨g, cap, cur, h', hb, hh, r⟩
  · exact .inl hn
  · refine .inr ⟨g, cap, cur, h', hb, ?_, r⟩
    injection h' with e1
    have := h.at_ _ e1
    simp only at this
    rw [Below.heap_setCell _ _ _ _ (by omega)]
    exact hh
theorem Acc.blk {g : Nat} {t' : TypeId} {cs : Array Value} (h : Acc b0 z t size w wr A m c xs) (hg : Blk w g t' cs) (hz : g < z) (hne : g ≠ b0) : Blk wr g t' cs := (h.block g hz hne).trans hg
/-- A call that turned nothing that was there, beside the gathering. -/
theorem Acc.on {w2 : World} (h : Acc b0 z t size w wr A m c xs) (hb : Below wr.heap.size wr w2) (hz : z ≤ w.heap.size) : Acc b0 z t size w w2 A m c xs :=
  ⟨h.own.kept (row := none) ⟨hb.os, hb.tape, hb.output, hb.size, fun k hk _ => hb.block k hk⟩ (by cases hv : (Value.slice A m c).ownBlock <;> simp), h.at_, hb.os.trans h.os, hb.tape.trans h.tape, hb.output.trans h.output, Nat.le_trans h.size hb.size,
    fun k hk hne => (hb.block k (Nat.lt_of_lt_of_le hk (Nat.le_trans hz h.size))).trans (h.block k hk hne)⟩
end

theorem news_at (w : World) (news : List Value) (e : TypeId) : ∀ j u, news[j]? = some u → (w.alloc (.cells news.toArray e)).cell? ((⟨w.heap.size, 0, none⟩ : Addr).add j) = some u := by
  intro j u hu
  have hadd : (⟨w.heap.size, 0, none⟩ : Addr).add j = ⟨w.heap.size, j, none⟩ := by unfold Addr.add; split <;> simp_all
  rw [hadd, World.cell?_alloc_at _ _ _ _ rfl]
  simpa using hu

theorem wpList_acc {P : Program} {ops : Array Oper} {rest : List Oper} {o : Oper} {a : Act} {Q : Exit → Act → World → Prop} (hgd : o.guard = none) (s x : Operand) (t : TypeId)
    (ho : o.op = .call { callee := .builtin .append, args := #[s, x], argTypes := #[t, t] })
    (e : TypeId) (zv : Value) (size bytes : Nat) (ht : P.underlying t = some (.slice e)) (hinfo : (P.info? e).map (fun i => (i.zero, i.size, i.bytes)) = some (some zv, size, bytes)) (hzs : zv.cells.size = size) (hsz : 0 < size) (hb : bytes ≤ 1000)
    {b0 z : Nat} {w wr : World} {A : Option Addr} {m c : Nat} {xs : List Value} (h : Acc b0 z e size w wr A m c xs) (hzw : z ≤ w.heap.size) (hs : a.eval s = .slice A m c)
    (news : List Value) (hx : a.eval x = .slice (some ⟨wr.heap.size, 0, none⟩) 1 1) (hl : news.length = size) (h1 : ∀ u ∈ news, u.oneCell' = true) (hm : m < 100000000)
    (K : ∀ A' c' w1, Acc b0 z e size w w1 A' (m + 1) c' (xs ++ news) → wpList P ops Q rest (a.put o.dst (.slice A' (m + 1) c')) w1) : wpList P ops Q (o :: rest) a (wr.alloc (.cells news.toArray e)) := by
  obtain ⟨i, hi, hz, hsize, hby⟩ := info_parts hinfo
  refine wpList_append_own_at _ hgd s x t ho 0 e i zv size bytes ht hi hz hsize hby hzs hsz _ _ _ hs (h.own.alloc _) ⟨wr.heap.size, 0, none⟩ 1 1 news hx (by omega) (news_at wr news e) h1 (by unfold maxLen; omega) ?_ (Nat.zero_le _) ?_
  · calc (m + 1) * bytes ≤ 100000000 * 1000 := Nat.mul_le_mul (by omega) hb
      _ ≤ 140737488355328 := by decide
  · intro v' w' hown hgrow _ hat
    have hwz : (wr.alloc (.cells news.toArray e)).heap.size = wr.heap.size + 1 := by simp
    have hzr : z ≤ wr.heap.size := Nat.le_trans hzw h.size
    have hrest : ∀ k, k < z → k ≠ b0 → w'.heap[k]? = w.heap[k]? := fun k hk hne => by
      rw [hgrow.block k (by omega) (fun ee => ?_), Below.heap_alloc wr _ k (by omega)]
      · exact h.block k hk hne
      · cases A with
        | none => simp [Value.ownBlock] at ee
        | some ad =>
          simp [Value.ownBlock] at ee
          rcases h.at_ ad rfl with e1 | e1 <;> omega
    have hsz' : w.heap.size ≤ w'.heap.size := Nat.le_trans h.size (by have := hgrow.size; omega)
    rcases hown.2 with ⟨hv, hn⟩ | ⟨g, cap, cur, hv, hb', hgg, hrest'⟩
    · omega
    · have hat' : g = b0 ∨ z ≤ g := by
        subst hv
        rcases hat with e1 | e1
        · cases A with
          | none => simp [Value.ownBlock] at e1
          | some ad =>
            simp [Value.ownBlock] at e1
            rcases h.at_ ad rfl with e2 | e2 <;> omega
        · simp [Value.ownBlock] at e1
          omega
      subst hv
      exact K _ _ _ ⟨hown, fun ad had => by injection had with had; subst had; exact hat', by have := hgrow.os; rw [this]; exact h.os, by have := hgrow.tape; rw [this]; exact h.tape, by have := hgrow.output; rw [this]; exact h.output, hsz', hrest⟩
/-- The same where the new row's place is spelled otherwise. -/
theorem wpList_accAt {P : Program} {ops : Array Oper} {rest : List Oper} {o : Oper} {a : Act} {Q : Exit → Act → World → Prop} (hgd : o.guard = none) (s x : Operand) (t : TypeId)
    (ho : o.op = .call { callee := .builtin .append, args := #[s, x], argTypes := #[t, t] })
    (e : TypeId) (zv : Value) (size bytes : Nat) (ht : P.underlying t = some (.slice e)) (hinfo : (P.info? e).map (fun i => (i.zero, i.size, i.bytes)) = some (some zv, size, bytes)) (hzs : zv.cells.size = size) (hsz : 0 < size) (hb : bytes ≤ 1000)
    {b0 z : Nat} {w wr : World} {A : Option Addr} {m c : Nat} {xs : List Value} (h : Acc b0 z e size w wr A m c xs) (hzw : z ≤ w.heap.size) (hs : a.eval s = .slice A m c)
    (hd : Nat) (hhd : hd = wr.heap.size) (news : List Value) (hx : a.eval x = .slice (some ⟨hd, 0, none⟩) 1 1) (hl : news.length = size) (h1 : ∀ u ∈ news, u.oneCell' = true) (hm : m < 100000000)
    (K : ∀ A' c' w1, Acc b0 z e size w w1 A' (m + 1) c' (xs ++ news) → wpList P ops Q rest (a.put o.dst (.slice A' (m + 1) c')) w1) : wpList P ops Q (o :: rest) a (wr.alloc (.cells news.toArray e)) := by
  subst hhd
  exact wpList_acc hgd s x t ho e zv size bytes ht hinfo hzs hsz hb h hzw hs news hx hl h1 hm K
end Go.Proofs.YtjmlcobbjpmjpaaGreatDoor
namespace Go.Proofs.YtjmlcobbjpmjpaaGreatDoor
open Go.RowKit

theorem Sl.nilc {w : World} {lo hi : Nat} {t : TypeId} {size : Nat} {A : Option Addr} {n c : Nat} {xs : List Value} (h : Sl w lo hi t size A n c xs) : A = none → n = 0 ∧ c = 0 := by
  intro hA
  rcases h.form with ⟨_, h1, h2⟩ | ⟨g, cur, h1, _⟩
  · exact ⟨h1, h2⟩
  · rw [hA] at h1; cases h1
theorem add_plain (b off j : Nat) : ((⟨b, off, none⟩ : Addr).add j) = ⟨b, off + j, none⟩ := by unfold Addr.add; split <;> simp_all
theorem wpList_accMany {P : Program} {ops : Array Oper} {rest : List Oper} {o : Oper} {a : Act} {Q : Exit → Act → World → Prop} (hgd : o.guard = none) (s x : Operand) (t : TypeId)
    (ho : o.op = .call { callee := .builtin .append, args := #[s, x], argTypes := #[t, t] })
    (e : TypeId) (zv : Value) (size bytes : Nat) (ht : P.underlying t = some (.slice e)) (hinfo : (P.info? e).map (fun i => (i.zero, i.size, i.bytes)) = some (some zv, size, bytes)) (hzs : zv.cells.size = size) (hsz : 0 < size) (hb : bytes ≤ 1000)
    {b0 z : Nat} {w wr : World} {A : Option Addr} {m c : Nat} {xs : List Value} (h : Acc b0 z e size w wr A m c xs) (hzw : z ≤ w.heap.size) (hs : a.eval s = .slice A m c)
    (b off k d : Nat) (news : List Value) (hx : a.eval x = .slice (some ⟨b, off, none⟩) k d) (hl : news.length = k * size) (hc : ∀ j u, news[j]? = some u → wr.cell? ⟨b, off + j, none⟩ = some u) (h1 : ∀ u ∈ news, u.oneCell' = true) (hm : m + k < 100000000)
    (K : ∀ A' c' w1, Acc b0 z e size w w1 A' (m + k) c' (xs ++ news) → wpList P ops Q rest (a.put o.dst (.slice A' (m + k) c')) w1) : wpList P ops Q (o :: rest) a wr := by
  obtain ⟨i, hi, hz, hsize, hby⟩ := info_parts hinfo
  refine wpList_append_own_at _ hgd s x t ho 0 e i zv size bytes ht hi hz hsize hby hzs hsz _ _ _ hs h.own ⟨b, off, none⟩ k d news hx hl (fun j u hu => by rw [add_plain]; exact hc j u hu) h1 (by unfold maxLen; omega) ?_ (Nat.zero_le _) ?_
  · calc (m + k) * bytes ≤ 100000000 * 1000 := Nat.mul_le_mul (by omega) hb
      _ ≤ 140737488355328 := by decide
  · intro v' w' hown hgrow _ hat
    have hzr : z ≤ wr.heap.size := Nat.le_trans hzw h.size
    have hrest : ∀ q, q < z → q ≠ b0 → w'.heap[q]? = w.heap[q]? := fun q hq hne => by
      rw [hgrow.block q (by omega) (fun ee => ?_)]
      · exact h.block q hq hne
      · cases A with
        | none => simp [Value.ownBlock] at ee
        | some ad =>
          simp [Value.ownBlock] at ee
          rcases h.at_ ad rfl with e1 | e1 <;> omega
    have hsz' : w.heap.size ≤ w'.heap.size := Nat.le_trans h.size hgrow.size
    rcases hown.2 with ⟨hv, hn⟩ | ⟨g, cap, cur, hv, hb', hgg, hrest'⟩
    · subst hv
      rw [show (Value.slice none 0 0) = .slice none (m + k) 0 from by rw [hn]]
      exact K _ _ _ ⟨by rw [hn] at hown ⊢; exact hown, (fun ad had => by cases had), by have := hgrow.os; rw [this]; exact h.os, by have := hgrow.tape; rw [this]; exact h.tape, by have := hgrow.output; rw [this]; exact h.output, hsz', hrest⟩
    · have hat' : g = b0 ∨ z ≤ g := by
        subst hv
        rcases hat with e1 | e1
        · cases A with
          | none => simp [Value.ownBlock] at e1
          | some ad =>
            simp [Value.ownBlock] at e1
            rcases h.at_ ad rfl with e2 | e2 <;> omega
        · simp [Value.ownBlock] at e1
          omega
      subst hv
      exact K _ _ _ ⟨hown, fun ad had => by injection had with had; subst had; exact hat', by have := hgrow.os; rw [this]; exact h.os, by have := hgrow.tape; rw [this]; exact h.tape, by have := hgrow.output; rw [this]; exact h.output, hsz', hrest⟩
end Go.Proofs.YtjmlcobbjpmjpaaGreatDoor
namespace Go.Proofs.YtjmlcobbjpmjpaaGreatDoor
open Go.Lib

def isDig (c : UInt8) : Bool := decide (48 ≤ c.toNat) && decide (c.toNat ≤ 57)
theorem isDig_iff {c : UInt8} : isDig c = true ↔ 48 ≤ c.toNat ∧ c.toNat ≤ 57 := by simp [isDig]
theorem isDig_not {c : UInt8} : isDig c = false ↔ ¬ (48 ≤ c.toNat ∧ c.toNat ≤ 57) := by rw [← isDig_iff]; simp
def valD (l : List UInt8) : Nat := l.foldl (fun a c => a * 10 + (c.toNat - 48)) 0
def valF (a : Nat) (l : List UInt8) : Nat := l.foldl (fun a c => a * 10 + (c.toNat - 48)) a
theorem valF_lt : ∀ (l : List UInt8) (a k : Nat), a < 10 ^ k → l.all isDig = true → valF a l < 10 ^ (k + l.length)
  | [], a, k, h, _ => by simpa [valF] using h
  | c :: r, a, k, h, hd => by
    simp only [List.all_cons, Bool.and_eq_true] at hd
    have hc := isDig_iff.1 hd.1
    have := valF_lt r (a * 10 + (c.toNat - 48)) (k + 1) (by rw [Nat.pow_succ]; omega) hd.2
    rw [show k + (c :: r).length = k + 1 + r.length by simp; omega]
    exact this
theorem valD_lt {l : List UInt8} (hd : l.all isDig = true) (hl : l.length ≤ 18) : valD l < 1000000000000000000 := by
  have := valF_lt l 0 0 (by decide) hd
  have h2 : 10 ^ (0 + l.length) ≤ 10 ^ 18 := Nat.pow_le_pow_right (by decide) (by omega)
  have h3 : (10 : Nat) ^ 18 = 1000000000000000000 := by decide
  show valF 0 l < _
  omega
theorem valD_snoc (l : List UInt8) (c : UInt8) : valD (l ++ [c]) = valD l * 10 + (c.toNat - 48) := by simp [valD]
/-- What stands behind a sign. -/
def bare (s : List UInt8) : List UInt8 := match s with
  | [] => []
  | c :: r => if c = 45 then r else c :: r
def negS (s : List UInt8) : Bool := match s with
  | [] => false
  | c :: _ => c == 45
def numS (s : List UInt8) : Int := if negS s = true then -(valD (bare s) : Int) else valD (bare s)
/-- A text is the decimal form of a number of at most 18 digits. -/
def isDec (s : List UInt8) : Bool := !(bare s).isEmpty && decide ((bare s).length ≤ 18) && (bare s).all isDig && (itoa (numS s) == s)
theorem isDec_iff {s : List UInt8} : isDec s = true ↔ bare s ≠ [] ∧ (bare s).length ≤ 18 ∧ (bare s).all isDig = true ∧ itoa (numS s) = s := by
  simp [isDec, and_assoc]
def readN (s : List UInt8) : Int × Bool := if isDec s = true then (numS s, true) else (0, false)
theorem readN_no {s : List UInt8} (h : isDec s = false) : readN s = (0, false) := by simp [readN, h]
theorem readN_yes {s : List UInt8} (h : isDec s = true) : readN s = (numS s, true) := by simp [readN, h]
theorem readN_bd (s : List UInt8) : -1000000000000000000 < (readN s).1 ∧ (readN s).1 < 1000000000000000000 := by
  rcases h : isDec s with _ | _
  · rw [readN_no h]; decide
  · obtain ⟨_, h2, h3, _⟩ := isDec_iff.1 h
    have := valD_lt h3 h2
    rw [readN_yes h]
    simp only [numS]
    split <;> omega
theorem isDec_long {s : List UInt8} (h : 18 < (bare s).length) : isDec s = false := by
  rcases hd : isDec s with _ | _
  · rfl
  · have := (isDec_iff.1 hd).2.1; omega
theorem isDec_empty {s : List UInt8} (h : bare s = []) : isDec s = false := by simp [isDec, h]
theorem isDec_bad {s : List UInt8} (h : (bare s).all isDig = false) : isDec s = false := by simp [isDec, h]
theorem isDec_odd {s : List UInt8} (h : itoa (numS s) ≠ s) : isDec s = false := by
  rcases hd : isDec s with _ | _
  · rfl
  · exact absurd (isDec_iff.1 hd).2.2.2 h
theorem bare_len (s : List UInt8) : (bare s).length ≤ s.length ∧ s.length ≤ (bare s).length + 1 := by
  cases s with
  | nil => simp [bare]
  | cons c r => simp only [bare]; split <;> simp
theorem parseM_dig : ∀ (l : List UInt8) (a k : Nat), a < 10 ^ k → k + l.length ≤ 18 → l.all isDig = true → parseUintM 18446744073709551615 a l = .ok (valF a l)
  | [], a, k, h, _, _ => rfl
  | c :: r, a, k, h, hk, hd => by
    simp only [List.all_cons, Bool.and_eq_true] at hd
    have hc := isDig_iff.1 hd.1
    have hp : 10 ^ (k + 1) ≤ 10 ^ 18 := Nat.pow_le_pow_right (by decide) (by simp at hk; omega)
    have h3 : (10 : Nat) ^ 18 = 1000000000000000000 := by decide
    have ha : a * 10 + (c.toNat - 48) < 10 ^ (k + 1) := by rw [Nat.pow_succ]; omega
    rw [parseUintM, if_pos hc, if_neg (by rw [Nat.pow_succ] at hp; omega), if_neg (by omega), parseM_dig r _ (k + 1) ha (by simp at hk; omega) hd.2]
    rfl
theorem parseM_bad : ∀ (l : List UInt8) (a k : Nat), a < 10 ^ k → k + l.length ≤ 18 → l.all isDig = false → parseUintM 18446744073709551615 a l = NumEnd.syntax
  | [], a, k, h, _, hd => by simp at hd
  | c :: r, a, k, h, hk, hd => by
    rcases hc : isDig c with _ | _
    · rw [parseUintM, if_neg (isDig_not.1 hc)]
    · have hc' := isDig_iff.1 hc
      have hp : 10 ^ (k + 1) ≤ 10 ^ 18 := Nat.pow_le_pow_right (by decide) (by simp at hk; omega)
      have h3 : (10 : Nat) ^ 18 = 1000000000000000000 := by decide
      have ha : a * 10 + (c.toNat - 48) < 10 ^ (k + 1) := by rw [Nat.pow_succ]; omega
      simp only [List.all_cons, hc, Bool.true_and] at hd
      rw [parseUintM, if_pos hc', if_neg (by rw [Nat.pow_succ] at hp; omega), if_neg (by omega), parseM_bad r _ (k + 1) ha (by simp at hk; omega) hd]
theorem decDigits_dig (u : Nat) : (decDigits u).all isDig = true := by
  induction u using Nat.strongRecOn with
  | _ u ih =>
    have one : ∀ d, d < 10 → isDig (UInt8.ofNat (48 + d)) = true := fun d hd => by
      rw [isDig_iff, UInt8.toNat_ofNat']
      omega
    by_cases h : u < 10
    · rw [decDigits, dif_pos h, List.all_cons, one u h]; rfl
    · rw [decDigits, dif_neg h]
      simp only [List.all_append, ih (u / 10) (by omega), List.all_cons, one (u % 10) (by omega), List.all_nil, Bool.and_self]
theorem decDigits_ne (u : Nat) : decDigits u ≠ [] := by
  rw [decDigits]; split <;> simp
/-- No decimal form begins with '+'. -/
theorem itoa_plus (n : Int) (r : List UInt8) : itoa n ≠ 43 :: r := by
  unfold itoa
  split
  · intro h; injection h with h; cases h
  · intro h
    have := decDigits_dig n.toNat
    rw [h] at this
    simp [isDig] at this
theorem parse_ok {s : List UInt8} (hl : (bare s).length ≤ 18) {v : Int} (h : parseIntB 64 s = .ok v) : (itoa v = s → isDec s = true ∧ numS s = v) ∧ (itoa v ≠ s → isDec s = false) := by
  cases s with
  | nil => simp [parseIntB] at h
  | cons c r =>
    by_cases hp : c.toNat = 43
    · have hc : c = 43 := by rw [← UInt8.toNat_inj]; exact hp
      subst hc
      have hno : isDec (43 :: r) = false := isDec_bad (by simp [bare, isDig])
      exact ⟨fun he => absurd he (itoa_plus v r), fun _ => hno⟩
    · by_cases hm : c.toNat = 45
      · have hc : c = 45 := by rw [← UInt8.toNat_inj]; exact hm
        subst hc
        have hb : bare (45 :: r) = r := by simp [bare]
        have hn : numS (45 :: r) = -(valD r : Int) := by simp [numS, negS, hb]
        rw [hb] at hl
        unfold parseIntB parseUintB at h
        simp only [hm, or_true, if_true] at h
        by_cases hr : r = []
        · rw [if_pos hr] at h; cases h
        · rw [if_neg hr] at h
          rcases hd : r.all isDig with _ | _
          · have := parseM_bad r 0 0 (by decide) (by omega) hd
            rw [show (2 ^ 64 - 1 : Nat) = 18446744073709551615 from rfl, this] at h
            cases h
          · have := parseM_dig r 0 0 (by decide) (by omega) hd
            have hv := valD_lt hd hl
            rw [show (2 ^ 64 - 1 : Nat) = 18446744073709551615 from rfl, this] at h
            simp only [not_true, false_and, if_false, true_and] at h
            rw [if_neg (by show ¬ (2 ^ 63 < valD r); omega)] at h
            injection h with h
            have hv' : numS (45 :: r) = v := by rw [hn]; exact h
            exact ⟨fun he => ⟨isDec_iff.2 ⟨by rw [hb]; exact hr, by rw [hb]; exact hl, by rw [hb]; exact hd, by rw [hv']; exact he⟩, hv'⟩, fun he => isDec_odd (by rw [hv']; exact he)⟩
      · have hc : c ≠ 45 := fun hh => hm (by rw [hh]; rfl)
        have hb : bare (c :: r) = c :: r := by simp [bare, hc]
        have hn : numS (c :: r) = (valD (c :: r) : Int) := by simp [numS, negS, hb, hc]
        rw [hb] at hl
        unfold parseIntB parseUintB at h
        simp only [hp, hm, or_self, if_false, false_and] at h
        rw [if_neg (by simp)] at h
        rcases hd : (c :: r).all isDig with _ | _
        · have := parseM_bad (c :: r) 0 0 (by decide) (by omega) hd
          rw [show (2 ^ 64 - 1 : Nat) = 18446744073709551615 from rfl, this] at h
          cases h
        · have := parseM_dig (c :: r) 0 0 (by decide) (by omega) hd
          have hv := valD_lt hd hl
          rw [show (2 ^ 64 - 1 : Nat) = 18446744073709551615 from rfl, this] at h
          simp only [not_false_eq_true, true_and] at h
          rw [if_neg (by show ¬ (2 ^ 63 ≤ valD (c :: r)); omega)] at h
          injection h with h
          have hv' : numS (c :: r) = v := by rw [hn]; exact h
          exact ⟨fun he => ⟨isDec_iff.2 ⟨by rw [hb]; simp, by rw [hb]; exact hl, by rw [hb]; exact hd, by rw [hv']; exact he⟩, hv'⟩, fun he => isDec_odd (by rw [hv']; exact he)⟩
theorem parse_syntax {s : List UInt8} (hl : (bare s).length ≤ 18) (h : parseIntB 64 s = NumEnd.syntax) : isDec s = false := by
  rcases hd : isDec s with _ | _
  · rfl
  · exfalso
    obtain ⟨h1, h2, h3, h4⟩ := isDec_iff.1 hd
    cases s with
    | nil => exact h1 rfl
    | cons c r =>
      by_cases hp : c.toNat = 43
      · have hc : c = 43 := by rw [← UInt8.toNat_inj]; exact hp
        subst hc
        exact itoa_plus _ _ h4
      · by_cases hm : c.toNat = 45
        · have hc : c = 45 := by rw [← UInt8.toNat_inj]; exact hm
          subst hc
          have hb : bare (45 :: r) = r := by simp [bare]
          rw [hb] at h1 h2 h3
          have := parseM_dig r 0 0 (by decide) (by omega) h3
          have hv := valD_lt h3 h2
          unfold parseIntB parseUintB at h
          simp only [hm, or_true, if_true] at h
          rw [if_neg h1, show (2 ^ 64 - 1 : Nat) = 18446744073709551615 from rfl, this] at h
          simp only [not_true, false_and, if_false, true_and] at h
          rw [if_neg (by show ¬ (2 ^ 63 < valD r); omega)] at h
          cases h
        · have hc : c ≠ 45 := fun hh => hm (by rw [hh]; rfl)
          have hb : bare (c :: r) = c :: r := by simp [bare, hc]
          rw [hb] at h1 h2 h3
          have := parseM_dig (c :: r) 0 0 (by decide) (by omega) h3
          have hv := valD_lt h3 h2
          unfold parseIntB parseUintB at h
          simp only [hp, hm, or_self, if_false, false_and] at h
          rw [if_neg h1, show (2 ^ 64 - 1 : Nat) = 18446744073709551615 from rfl, this] at h
          simp only [not_false_eq_true, true_and] at h
          rw [if_neg (by show ¬ (2 ^ 63 ≤ valD (c :: r)); omega)] at h
          cases h
theorem parse_range {s : List UInt8} (hl : (bare s).length ≤ 18) (h : parseIntB 64 s = .range) : isDec s = false := by
  rcases hd : isDec s with _ | _
  · rfl
  · exfalso
    obtain ⟨h1, h2, h3, h4⟩ := isDec_iff.1 hd
    cases s with
    | nil => exact h1 rfl
    | cons c r =>
      by_cases hp : c.toNat = 43
      · have hc : c = 43 := by rw [← UInt8.toNat_inj]; exact hp
        subst hc
        exact itoa_plus _ _ h4
      · by_cases hm : c.toNat = 45
        · have hc : c = 45 := by rw [← UInt8.toNat_inj]; exact hm
          subst hc
          have hb : bare (45 :: r) = r := by simp [bare]
          rw [hb] at h1 h2 h3
          have := parseM_dig r 0 0 (by decide) (by omega) h3
          have hv := valD_lt h3 h2
          unfold parseIntB parseUintB at h
          simp only [hm, or_true, if_true] at h
          rw [if_neg h1, show (2 ^ 64 - 1 : Nat) = 18446744073709551615 from rfl, this] at h
          simp only [not_true, false_and, if_false, true_and] at h
          rw [if_neg (by show ¬ (2 ^ 63 < valD r); omega)] at h
          cases h
        · have hc : c ≠ 45 := fun hh => hm (by rw [hh]; rfl)
          have hb : bare (c :: r) = c :: r := by simp [bare, hc]
          rw [hb] at h1 h2 h3
          have := parseM_dig (c :: r) 0 0 (by decide) (by omega) h3
          have hv := valD_lt h3 h2
          unfold parseIntB parseUintB at h
          simp only [hp, hm, or_self, if_false, false_and] at h
          rw [if_neg h1, show (2 ^ 64 - 1 : Nat) = 18446744073709551615 from rfl, this] at h
          simp only [not_false_eq_true, true_and] at h
          rw [if_neg (by show ¬ (2 ^ 63 ≤ valD (c :: r)); omega)] at h
          cases h
/-- The digits ahead of those that a loop has written. -/
def dgts (u : Nat) : List UInt8 := if u = 0 then [] else decDigits u
theorem dgts_zero : dgts 0 = [] := rfl
theorem dgts_step {u : Nat} (h : u ≠ 0) : dgts u = dgts (u / 10) ++ [UInt8.ofNat (48 + u % 10)] := by
  unfold dgts
  rw [if_neg h, decDigits]
  by_cases h1 : u < 10
  · rw [dif_pos h1, if_pos (by omega), Nat.mod_eq_of_lt h1]; rfl
  · rw [dif_neg h1, if_neg (by omega)]
theorem itoa_pos {n : Int} (h : 0 < n) : itoa n = dgts n.natAbs := by
  unfold itoa dgts
  rw [if_neg (by omega), if_neg (by omega)]
  congr 1
  omega
theorem itoa_neg {n : Int} (h : n < 0) : itoa n = 45 :: dgts n.natAbs := by
  unfold itoa dgts
  rw [if_pos h, if_neg (by omega)]
theorem itoa_zero : itoa 0 = [48] := by
  unfold itoa
  rw [if_neg (by decide), decDigits, dif_pos (by decide)]
  rfl
theorem pow_le_nDigits : ∀ (k u : Nat), k < nDigits u → 10 ^ k ≤ u ∨ k = 0
  | 0, u, _ => .inr rfl
  | k + 1, u, hu => by
    by_cases hs : u < 10
    · rw [nDigits_small hs] at hu; omega
    · rw [nDigits_big hs] at hu
      rcases pow_le_nDigits k (u / 10) (by omega) with h | h
      · left; rw [Nat.pow_succ]; omega
      · subst h; left; omega
theorem dgts_len {u : Nat} (h : u < 10000000000000000000) : (dgts u).length ≤ 19 := by
  unfold dgts
  split
  · simp
  · rw [decDigits_eq, List.length_map, List.length_range]
    rcases Nat.lt_or_ge 19 (nDigits u) with h1 | h1
    · exfalso
      rcases pow_le_nDigits 19 u h1 with h | h
      · have h3 : (10 : Nat) ^ 19 = 10000000000000000000 := by decide
        omega
      · cases h
    · exact h1
theorem itoa_len {n : Int} (h0 : -9223372036854775808 ≤ n) (h1 : n ≤ 9223372036854775807) : (itoa n).length ≤ 20 := by
  rcases Int.lt_trichotomy n 0 with h | h | h
  · rw [itoa_neg h]; have := dgts_len (u := n.natAbs) (by omega); simp; omega
  · subst h; rw [itoa_zero]; decide
  · rw [itoa_pos h]; have := dgts_len (u := n.natAbs) (by omega); omega
theorem decDigits_len {u : Nat} (h : u < 1000000000000000000) : (decDigits u).length ≤ 18 := by
  rw [decDigits_eq, List.length_map, List.length_range]
  rcases Nat.lt_or_ge 18 (nDigits u) with h1 | h1
  · exfalso
    rcases pow_le_nDigits 18 u h1 with h2 | h2
    · have h3 : (10 : Nat) ^ 18 = 1000000000000000000 := by decide
      omega
    · cases h2
  · exact h1
theorem valD_digits (u : Nat) : valD (decDigits u) = u := by
  induction u using Nat.strongRecOn with
  | _ u ih =>
    have one : ∀ d, d < 10 → (UInt8.ofNat (48 + d)).toNat = 48 + d := fun d hd => by rw [UInt8.toNat_ofNat']; omega
    by_cases h : u < 10
    · rw [decDigits, dif_pos h]
      show 0 * 10 + ((UInt8.ofNat (48 + u)).toNat - 48) = u
      rw [one u h]; omega
    · rw [decDigits, dif_neg h, valD_snoc, ih (u / 10) (by omega), one (u % 10) (by omega)]
      omega
theorem dig_not_minus {c : UInt8} {r l : List UInt8} (hl : l.all isDig = true) (h : l = c :: r) : c ≠ 45 := by
  subst h
  intro e
  subst e
  simp [isDig] at hl
theorem bare_dig {l : List UInt8} (hl : l.all isDig = true) : bare l = l ∧ negS l = false := by
  cases l with
  | nil => exact ⟨rfl, rfl⟩
  | cons c r =>
    have := dig_not_minus hl rfl
    exact ⟨by simp [bare, this], by simp [negS, this]⟩
theorem isDec_itoa {n : Int} (h0 : -1000000000000000000 < n) (h1 : n < 1000000000000000000) : isDec (itoa n) = true ∧ numS (itoa n) = n := by
  by_cases hn : n < 0
  · have e : itoa n = 45 :: decDigits n.natAbs := by unfold itoa; rw [if_pos hn]
    have hb : bare (itoa n) = decDigits n.natAbs := by rw [e]; simp [bare]
    have hv : numS (itoa n) = n := by
      unfold numS
      rw [hb, e]
      simp only [negS, beq_self_eq_true, if_true, valD_digits]
      omega
    refine ⟨isDec_iff.2 ⟨by rw [hb]; exact decDigits_ne _, by rw [hb]; exact decDigits_len (by omega), by rw [hb]; exact decDigits_dig _, by rw [hv]⟩, hv⟩
  · have e : itoa n = decDigits n.toNat := by unfold itoa; rw [if_neg hn]
    obtain ⟨hb, hs⟩ := bare_dig (decDigits_dig n.toNat)
    have hv : numS (itoa n) = n := by
      unfold numS
      rw [e, hb, hs]
      simp only [Bool.false_eq_true, if_false, valD_digits]
      omega
    refine ⟨isDec_iff.2 ⟨by rw [e, hb]; exact decDigits_ne _, by rw [e, hb]; exact decDigits_len (by omega), by rw [e, hb]; exact decDigits_dig _, by rw [hv]⟩, hv⟩
theorem itoa_numS {s : List UInt8} (h : isDec s = true) : itoa (numS s) = s := (isDec_iff.1 h).2.2.2
end Go.Proofs.YtjmlcobbjpmjpaaGreatDoor
namespace Go.Proofs.YtjmlcobbjpmjpaaGreatDoor
open Go.Lib

def splitL (c : UInt8) : List UInt8 → List (List UInt8)
  | [] => [[]]
  | x :: r => if x = c then [] :: splitL c r else match splitL c r with
    | [] => [[x]]
    | h :: t => (x :: h) :: t
theorem splitL_none {c : UInt8} : ∀ {l : List UInt8}, c ∉ l → splitL c l = [l]
  | [], _ => rfl
  | x :: r, h => by
    simp only [List.mem_cons, not_or] at h
    rw [splitL, if_neg (fun e => h.1 e.symm), splitL_none h.2]
theorem splitL_hit {c : UInt8} {r : List UInt8} : ∀ {a : List UInt8}, c ∉ a → splitL c (a ++ c :: r) = a :: splitL c r
  | [], _ => by simp [splitL]
  | x :: a, h => by
    simp only [List.mem_cons, not_or] at h
    rw [List.cons_append, splitL, if_neg (fun e => h.1 e.symm), splitL_hit h.2]
theorem splitL_len (c : UInt8) : ∀ l : List UInt8, (splitL c l).length = l.count c + 1
  | [] => rfl
  | x :: r => by
    have ih := splitL_len c r
    rw [splitL]
    by_cases h : x = c
    · subst h
      rw [if_pos rfl, List.length_cons, ih]
      simp
    · rw [if_neg h, List.count_cons_of_ne (by simpa using h)]
      revert ih
      cases splitL c r with
      | nil => intro ih; simp at ih
      | cons y t => intro ih; simpa using ih
theorem index_one (c : UInt8) : ∀ l : List UInt8, (index l [c] = -1 ∧ c ∉ l) ∨ ∃ a r, l = a ++ c :: r ∧ c ∉ a ∧ index l [c] = a.length
  | [] => .inl ⟨by simp [index], by simp⟩
  | b :: l => by
    by_cases h : c = b
    · subst h
      exact .inr ⟨[], l, rfl, by simp, by simp [index]⟩
    · have hp : ([c] : List UInt8).isPrefixOf (b :: l) = false := by simp [List.isPrefixOf, h]
      rcases index_one c l with ⟨h1, h2⟩ | ⟨a, r, rfl, h2, h3⟩
      · exact .inl ⟨by rw [index, hp, h1]; rfl, by simp [h, h2]⟩
      · refine .inr ⟨b :: a, r, rfl, by simp [h, h2], ?_⟩
        rw [index, hp, h3]
        rw [if_neg (by simp), if_neg (by simp)]
        simp
theorem splitK_ge (c : UInt8) : ∀ (k : Nat) (l : List UInt8), l.count c ≤ k → splitK [c] 0 k l = splitL c l
  | 0, l, h => by
    have : c ∉ l := by rw [← List.count_pos_iff]; omega
    rw [splitL_none this]; rfl
  | k + 1, l, h => by
    rw [splitK]
    rcases index_one c l with ⟨h1, h2⟩ | ⟨a, r, rfl, h2, h3⟩
    · rw [h1, splitL_none h2]; rfl
    · rw [h3, if_neg (by simp), splitL_hit h2]
      have hc : (a ++ c :: r).count c = r.count c + 1 := by
        rw [List.count_append, List.count_eq_zero.2 h2]; simp
      have e1 : ((a.length : Int)).toNat = a.length := by omega
      rw [e1, Nat.add_zero, List.take_left, List.length_singleton]
      have e2 : (a ++ c :: r).drop (a.length + 1) = r := by
        rw [← List.drop_drop, List.drop_left]; rfl
      rw [e2, splitK_ge c k r (by omega)]
theorem splitK_len (c : UInt8) : ∀ (k : Nat) (l : List UInt8), k ≤ l.count c → (splitK [c] 0 k l).length = k + 1
  | 0, l, _ => rfl
  | k + 1, l, h => by
    rw [splitK]
    rcases index_one c l with ⟨h1, h2⟩ | ⟨a, r, rfl, h2, h3⟩
    · rw [List.count_eq_zero.2 h2] at h; omega
    · rw [h3, if_neg (by simp)]
      have hc : (a ++ c :: r).count c = r.count c + 1 := by
        rw [List.count_append, List.count_eq_zero.2 h2]; simp
      have e1 : ((a.length : Int)).toNat = a.length := by omega
      rw [e1, List.length_singleton]
      have e2 : (a ++ c :: r).drop (a.length + 1) = r := by
        rw [← List.drop_drop, List.drop_left]; rfl
      rw [e2, List.length_cons, splitK_len c k r (by omega)]
def asBytes (l : List UInt8) : ByteArray := ⟨l.toArray⟩
theorem asBytes_data (s : ByteArray) : asBytes s.data.toList = s := by simp [asBytes]
theorem data_asBytes (l : List UInt8) : (asBytes l).data.toList = l := by simp [asBytes]
theorem asBytes_size (l : List UInt8) : (asBytes l).size = l.length := by simp [asBytes, ByteArray.size]
/-- The parts of a text between bytes c. -/
def splitS (c : UInt8) (s : ByteArray) : List ByteArray := (splitL c s.data.toList).map asBytes
theorem splitS_len (c : UInt8) (s : ByteArray) : (splitS c s).length = s.data.toList.count c + 1 := by simp [splitS, splitL_len]
theorem of_data {xs : List ByteArray} {ys : List (List UInt8)} (h : xs.map (·.data.toList) = ys) : xs = ys.map asBytes := by
  rw [← h, List.map_map]
  have : (asBytes ∘ fun x : ByteArray => x.data.toList) = id := by funext x; exact asBytes_data x
  rw [this, List.map_id]
theorem countB_one (c : UInt8) (s : ByteArray) : countB s ⟨#[c]⟩ = s.data.toList.count c := by
  rw [countB, show (⟨#[c]⟩ : ByteArray).data.toList = [c] from rfl, count_one]
theorem splitB_one (c : UInt8) (s : ByteArray) : splitB ⟨#[c]⟩ 0 (countB s ⟨#[c]⟩) s = splitS c s := by
  have h := splitB_data ⟨#[c]⟩ 0 (countB s ⟨#[c]⟩) s
  rw [of_data h, show (⟨#[c]⟩ : ByteArray).data.toList = [c] from rfl, splitK_ge c _ _ (by rw [countB_one]; exact Nat.le_refl _)]
  rfl
/-- Cut at the first two bytes c alone: two parts just where there are two parts. -/
theorem splitB_two (c : UInt8) (s : ByteArray) (k : Nat) (hk : k = min 3 (s.size + 1) - 1) : ((splitB ⟨#[c]⟩ 0 k s).length = 2 → splitB ⟨#[c]⟩ 0 k s = splitS c s ∧ (splitS c s).length = 2) ∧ ((splitB ⟨#[c]⟩ 0 k s).length ≠ 2 → (splitS c s).length ≠ 2) := by
  have h := splitB_data ⟨#[c]⟩ 0 k s
  have hx := of_data h
  rw [show (⟨#[c]⟩ : ByteArray).data.toList = [c] from rfl] at hx
  have hcl : s.data.toList.count c ≤ s.size := by
    have := List.count_le_length (a := c) (l := s.data.toList)
    rw [Array.length_toList] at this
    exact this
  by_cases hc : s.data.toList.count c ≤ k
  · rw [splitK_ge c k _ hc] at hx
    have hx' : splitB ⟨#[c]⟩ 0 k s = splitS c s := hx
    rw [hx']
    exact ⟨fun h => ⟨rfl, h⟩, fun h => h⟩
  · have hl : (splitB ⟨#[c]⟩ 0 k s).length = k + 1 := by
      rw [hx, List.length_map, splitK_len c k _ (by omega)]
    have hk2 : k = 2 := by
      rw [hk] at hc ⊢
      simp only [Nat.min_def] at hc ⊢
      split at hc <;> rename_i h' <;> simp only [h', if_true, if_false] <;> omega
    rw [hl, hk2, splitS_len]
    exact ⟨fun h => by omega, fun h => by omega⟩
/-- The parts put together again. -/
def joinL (c : UInt8) : List (List UInt8) → List UInt8
  | [] => []
  | [x] => x
  | x :: y :: r => x ++ c :: joinL c (y :: r)
theorem splitL_ne (c : UInt8) (l : List UInt8) : splitL c l ≠ [] := by
  intro h
  have := splitL_len c l
  rw [h] at this
  cases this
theorem joinL_splitL (c : UInt8) : ∀ l : List UInt8, joinL c (splitL c l) = l
  | [] => rfl
  | x :: r => by
    have ih := joinL_splitL c r
    rw [splitL]
    by_cases h : x = c
    · subst h
      rw [if_pos rfl]
      have hne := splitL_ne x r
      revert ih hne
      cases splitL x r with
      | nil => intro _ hne; exact absurd rfl hne
      | cons y t => intro ih _; simp only [joinL]; rw [ih]; rfl
    · rw [if_neg h]
      have hne := splitL_ne c r
      revert ih hne
      cases splitL c r with
      | nil => intro _ hne; exact absurd rfl hne
      | cons y t =>
        intro ih _
        cases t with
        | nil => simp only [joinL] at ih ⊢; rw [ih]
        | cons z u => simp only [joinL] at ih ⊢; rw [List.cons_append, ih]
theorem splitL_mem (c : UInt8) : ∀ (l x : List UInt8), x ∈ splitL c l → c ∉ x
  | [], x, h => by simp [splitL] at h; subst h; simp
  | y :: r, x, h => by
    have ih := splitL_mem c r
    rw [splitL] at h
    by_cases hy : y = c
    · rw [if_pos hy, List.mem_cons] at h
      rcases h with rfl | h
      · simp
      · exact ih x h
    · rw [if_neg hy] at h
      revert ih h
      cases splitL c r with
      | nil => intro h ih; simp at h; subst h; simpa using fun e => hy e.symm
      | cons a t =>
        intro h ih
        rw [List.mem_cons] at h
        rcases h with rfl | h
        · have := ih a (by simp)
          simp only [List.mem_cons, not_or]
          exact ⟨fun e => hy e.symm, this⟩
        · exact ih x (by simp [h])
end Go.Proofs.YtjmlcobbjpmjpaaGreatDoor
namespace Go.Proofs.YtjmlcobbjpmjpaaGreatDoor
open Go.RowKit Go.Lib

theorem info_u8 : (Tryz.prog.info? 5).map (fun i => (i.zero, i.size, i.bytes)) = some (some (.int .u8 0), 1, 1) := by kernel_rfl
def bytesV (l : List UInt8) : List Value := l.map fun c => .int .u8 (c.toNat : Int)
theorem bytesV_len (l : List UInt8) : (bytesV l).length = l.length := by simp [bytesV]
theorem bytesV_one (l : List UInt8) : ∀ u ∈ bytesV l, u.oneCell' = true := by
  intro u hu
  simp only [bytesV, List.mem_map] at hu
  obtain ⟨c, _, rfl⟩ := hu
  rfl
theorem asBytes_app (a b : List UInt8) : asBytes a ++ asBytes b = asBytes (a ++ b) := by
  apply ByteArray.ext
  simp [asBytes, ByteArray.data_append]
theorem dig_cast {d : Nat} (h : d < 10) : ((UInt8.ofNat (48 + d)).toNat : Int) = 48 + (d : Int) := by
  have : (UInt8.ofNat (48 + d)).toNat = 48 + d := by rw [UInt8.toNat_ofNat']; omega
  rw [this]; omega

set_option maxHeartbeats 4000000 in
set_option maxRecDepth 100000 in
theorem decPos_any (n : Int) (w : World) (h0 : 0 < n) (h1 : n ≤ 9223372036854775807) :
    Calls Tryz.prog 85 #[.int .i64 n] w fun e w' => e = .returned (.string (asBytes (itoa n))) ∧ Below w.heap.size w w' := by
  obtain ⟨p, rfl⟩ : ∃ p : Nat, n = (p : Int) := ⟨n.toNat, by omega⟩
  have hit := Lib.hid (itoa_pos h0)
  have hneg : decide ((p : Int) < 0) = false := decide_eq_false (by omega)
  go_enter Tryz.func85, Tryz.ntmps85
  go_wp2
  go_loopw [3, 4, 5] (fun s k _ wr => ∃ (q : Nat) (ds : List UInt8) (g c : Nat), s = .slice (some ⟨g, 0, none⟩) ds.length c ∧ k = .int .i64 (q : Int) ∧ q ≤ p ∧ dgts p = dgts q ++ ds ∧ Sl wr w.heap.size wr.heap.size 5 1 (some ⟨g, 0, none⟩) ds.length c (bytesV ds) ∧ Below w.heap.size w wr) (fun _ k _ _ => (intOf k).toNat)
  case atStart => exact ⟨p, [], _, _, rfl, rfl, Nat.le_refl _, by simp, (Sl.made w 5 1).wide (Nat.le_refl _) (by simp), (Below.refl _ _).alloc (Nat.le_refl _) _⟩
  case round =>
    obtain ⟨q, ds, g, c, rfl, rfl, hq, hd, hs, hbel⟩ := hrel
    have hlen : ds.length ≤ 19 := by
      have h9 := dgts_len (u := p) (by omega)
      rw [hd, List.length_append] at h9
      omega
    have HD := Lib.hid hd
    have HB := Lib.hid hbel
    have zr := hbel.size
    by_cases hq0 : q = 0
    · subst hq0
      have hds : ds.length ≠ 0 := by
        intro h9
        rw [List.length_eq_zero_iff.1 h9, dgts_zero] at hd
        have := dgts_step (u := p) (by omega)
        rw [hd] at this
        simp at this
      have hds1 : decide (((ds.length : Nat) : Int) = 0) = false := decide_eq_false (by omega)
      have hds2 : ((ds.length : Int) == 0) = false := by rw [beq_eq_false_iff_ne]; omega
      have hdd : dgts p = ds := by rw [hd, dgts_zero]; rfl
      have hcv := run_convert_bytes_back (P := Tryz.prog) wr 22 9 5 ⟨g, 0, none⟩ c ds Tryz.underlying22 Tryz.underlying5 Tryz.underlying9 (fun j hj => by
        rw [add_plain, Nat.zero_add, hs.cellAt j (by rw [Nat.mul_one]; exact hj)]
        simp [bytesV, hj])
      have HR := Lib.hid (show itoa (p : Int) = ds by rw [hit.out]; simpa using hdd)
      clear hd hdd hs hbel HD
      go_wp2
      go_ret
      exact ⟨by rw [HR.out]; rfl, HB.out⟩
    · have hq1 : ((q : Int) == 0) = false := by simp; omega
      have hq2 : (0 : Int) < q := by omega
      have hq3 : (q : Int) ≤ 9223372036854775807 := by omega
      have hlow : decide ((q : Int) % 10 < 0) = false := decide_eq_false (by omega)
      have hst := Lib.hid (dgts_step hq0)
      have hdc := Lib.hid (dig_cast (d := q % 10) (by omega))
      have hc8 : IntKind.u8.wrap (48 + (q : Int) % 10) = 48 + (q : Int) % 10 := by
        unfold IntKind.wrap; simp [IntKind.bits, IntKind.signed]; omega
      have hsn := Lib.hid (Sl.on hs ((Below.refl wr.heap.size wr).alloc (Nat.le_refl _) (.cells #[.int .u8 (48 + (q : Int) % 10)] 5)))
      have acc0 := Lib.hid (Acc.start (b0 := wr.heap.size) (Sl.of_blk (lo := wr.heap.size) (hi := wr.heap.size + 1) (size := 1) (n := 1) (Blk.new wr 5 #[.int .u8 (48 + (q : Int) % 10)]) (Nat.le_refl _) (Nat.lt_succ_self _) rfl (by unfold maxLen; omega)) (fun a ha => by injection ha with ha; subst ha; rfl) (wr.heap.size + 1))
      clear hd hs hbel
      go_wp2_with (at_builtin; refine wpList_accMany rfl _ _ 22 rfl 5 _ 1 1 Tryz.underlying22 info_u8 rfl (by decide) (by decide) acc0.out (by simp) rfl g 0 ds.length c (bytesV ds) rfl (by rw [bytesV_len]; omega) (fun j u hu => by rw [Nat.zero_add, hsn.out.cellAt j (by have := (List.getElem?_eq_some_iff.1 hu).1; rw [bytesV_len] at this; omega)]; exact hu) (bytesV_one ds) (by omega) ?_; intro A2 d2 w9 hacc2; rw [Nat.add_comm 1 ds.length] at hacc2; rw [Nat.add_comm 1 ds.length]; have HA2 := Lib.hid hacc2; clear hacc2)
      have s2 := HA2.out.sl (lo := w.heap.size) (by omega) (by omega)
      obtain ⟨g2, rfl, _, _, _⟩ := s2.lt (by omega)
      have HF := Lib.hid ((HB.out.alloc zr (.cells #[.int .u8 (48 + (q : Int) % 10)] 5)).trans (HA2.out.below (by omega) (by omega)))
      have HS2 := Lib.hid s2
      clear s2
      go_wp2
      go_roundw
      case rel =>
        have he : [Value.int .u8 (48 + (q : Int) % 10)] ++ bytesV ds = bytesV (UInt8.ofNat (48 + q % 10) :: ds) := by
          show _ = Value.int .u8 _ :: bytesV ds
          rw [hdc.out]
          rfl
        have h9 := HS2.out
        rw [he] at h9
        exact ⟨q / 10, _ :: ds, g2, d2, rfl, by go_num, by omega, by rw [HD.out, hst.out, List.append_assoc]; rfl, h9, HF.out⟩
      case measure => simp [intOf]; omega

set_option maxHeartbeats 4000000 in
set_option maxRecDepth 100000 in
theorem decNeg_any (n : Int) (w : World) (h0 : n < 0) (h1 : -9223372036854775808 ≤ n) :
    Calls Tryz.prog 85 #[.int .i64 n] w fun e w' => e = .returned (.string (asBytes (itoa n))) ∧ Below w.heap.size w w' := by
  obtain ⟨p, rfl⟩ : ∃ p : Nat, n = -(p : Int) := ⟨n.natAbs, by omega⟩
  have hit := Lib.hid (show itoa (-(p : Int)) = 45 :: dgts p by rw [itoa_neg h0, Int.natAbs_neg]; rfl)
  have hneg : (0 : Int) < p := by omega
  go_enter Tryz.func85, Tryz.ntmps85
  go_wp2
  go_loopw [3, 4, 5] (fun s k _ wr => ∃ (q : Nat) (ds : List UInt8) (g c : Nat), s = .slice (some ⟨g, 0, none⟩) ds.length c ∧ k = .int .i64 (-(q : Int)) ∧ q ≤ p ∧ dgts p = dgts q ++ ds ∧ Sl wr w.heap.size wr.heap.size 5 1 (some ⟨g, 0, none⟩) ds.length c (bytesV ds) ∧ Below w.heap.size w wr) (fun _ k _ _ => (-(intOf k)).toNat)
  case atStart => exact ⟨p, [], _, _, rfl, rfl, Nat.le_refl _, by simp, (Sl.made w 5 1).wide (Nat.le_refl _) (by simp), (Below.refl _ _).alloc (Nat.le_refl _) _⟩
  case round =>
    obtain ⟨q, ds, g, c, rfl, rfl, hq, hd, hs, hbel⟩ := hrel
    have hlen : ds.length ≤ 19 := by
      have h9 := dgts_len (u := p) (by omega)
      rw [hd, List.length_append] at h9
      omega
    have HD := Lib.hid hd
    have HB := Lib.hid hbel
    have zr := hbel.size
    by_cases hq0 : q = 0
    · subst hq0
      have hds : ds.length ≠ 0 := by
        intro h9
        rw [List.length_eq_zero_iff.1 h9, dgts_zero] at hd
        have := dgts_step (u := p) (by omega)
        rw [hd] at this
        simp at this
      have hds1 : decide (((ds.length : Nat) : Int) = 0) = false := decide_eq_false (by omega)
      have hds2 : ((ds.length : Int) == 0) = false := by rw [beq_eq_false_iff_ne]; omega
      have hdd : dgts p = ds := by rw [hd, dgts_zero]; rfl
      have hcv := run_convert_bytes_back (P := Tryz.prog) wr 22 9 5 ⟨g, 0, none⟩ c ds Tryz.underlying22 Tryz.underlying5 Tryz.underlying9 (fun j hj => by
        rw [add_plain, Nat.zero_add, hs.cellAt j (by rw [Nat.mul_one]; exact hj)]
        simp [bytesV, hj])
      have HR := Lib.hid (show itoa (-(p : Int)) = [45] ++ ds by rw [hit.out, hdd]; rfl)
      clear hd hdd hs hbel HD
      go_wp2
      go_ret
      exact ⟨by rw [HR.out, ← asBytes_app]; rfl, HB.out⟩
    · have hq1 : (-(q : Int) == 0) = false := by rw [beq_eq_false_iff_ne]; omega
      have hq4 : ¬ (-(q : Int) = 0) := by omega
      have hq2 : (0 : Int) < q := by omega
      have hq3 : (q : Int) ≤ 9223372036854775808 := by omega
      by_cases hz : (q : Int) % 10 = 0
      · have hz0 := hz
        have hrm : (-(q : Int)).tmod 10 = 0 := by rw [Int.neg_tmod, Int.tmod_eq_emod_of_nonneg (by omega), hz]; rfl
        have hqu : (-(q : Int)).tdiv 10 = -((q : Int) / 10) := by rw [Int.neg_tdiv, Int.tdiv_eq_ediv_of_nonneg (by omega)]
        have hst := Lib.hid (dgts_step hq0)
        have hdc := Lib.hid (dig_cast (d := q % 10) (by omega))
        have hsn := Lib.hid (Sl.on hs ((Below.refl wr.heap.size wr).alloc (Nat.le_refl _) (.cells #[.int .u8 48] 5)))
        have acc0 := Lib.hid (Acc.start (b0 := wr.heap.size) (Sl.of_blk (lo := wr.heap.size) (hi := wr.heap.size + 1) (size := 1) (n := 1) (Blk.new wr 5 #[.int .u8 48]) (Nat.le_refl _) (Nat.lt_succ_self _) rfl (by unfold maxLen; omega)) (fun a ha => by injection ha with ha; subst ha; rfl) (wr.heap.size + 1))
        have HZ := Lib.hid hz
        clear hd hs hbel hz hz0
        go_wp2_with (at_builtin; refine wpList_accMany rfl _ _ 22 rfl 5 _ 1 1 Tryz.underlying22 info_u8 rfl (by decide) (by decide) acc0.out (by simp) rfl g 0 ds.length c (bytesV ds) rfl (by rw [bytesV_len]; omega) (fun j u hu => by rw [Nat.zero_add, hsn.out.cellAt j (by have := (List.getElem?_eq_some_iff.1 hu).1; rw [bytesV_len] at this; omega)]; exact hu) (bytesV_one ds) (by omega) ?_; intro A2 d2 w9 hacc2; rw [Nat.add_comm 1 ds.length] at hacc2; rw [Nat.add_comm 1 ds.length]; have HA2 := Lib.hid hacc2; clear hacc2)
        have s2 := HA2.out.sl (lo := w.heap.size) (by omega) (by omega)
        obtain ⟨g2, rfl, _, _, _⟩ := s2.lt (by omega)
        have HF := Lib.hid ((HB.out.alloc zr (.cells #[.int .u8 48] 5)).trans (HA2.out.below (by omega) (by omega)))
        have HS2 := Lib.hid s2
        clear s2
        go_wp2
        go_roundw
        case rel =>
          have he : [Value.int .u8 48] ++ bytesV ds = bytesV (UInt8.ofNat (48 + q % 10) :: ds) := by
            show _ = Value.int .u8 _ :: bytesV ds
            rw [hdc.out, show ((q % 10 : Nat) : Int) = 0 by have := HZ.out; omega]
            rfl
          have h9 := HS2.out
          rw [he] at h9
          exact ⟨q / 10, _ :: ds, g2, d2, rfl, by rw [Int.natCast_ediv]; rfl, by omega, by rw [HD.out, hst.out, List.append_assoc]; rfl, h9, HF.out⟩
        case measure => simp [intOf]; omega
      · have hz1 : 0 < (q : Int) % 10 := by omega
        have hrm : (-(q : Int)).tmod 10 = -((q : Int) % 10) := by rw [Int.neg_tmod, Int.tmod_eq_emod_of_nonneg (by omega)]
        have hqu : (-(q : Int)).tdiv 10 = -((q : Int) / 10) := by rw [Int.neg_tdiv, Int.tdiv_eq_ediv_of_nonneg (by omega)]
        have hst := Lib.hid (dgts_step hq0)
        have hdc := Lib.hid (dig_cast (d := q % 10) (by omega))
        have hc8 : IntKind.u8.wrap (48 + (q : Int) % 10) = 48 + (q : Int) % 10 := by
          unfold IntKind.wrap; simp [IntKind.bits, IntKind.signed]; omega
        have hsn := Lib.hid (Sl.on hs ((Below.refl wr.heap.size wr).alloc (Nat.le_refl _) (.cells #[.int .u8 (48 + (q : Int) % 10)] 5)))
        have acc0 := Lib.hid (Acc.start (b0 := wr.heap.size) (Sl.of_blk (lo := wr.heap.size) (hi := wr.heap.size + 1) (size := 1) (n := 1) (Blk.new wr 5 #[.int .u8 (48 + (q : Int) % 10)]) (Nat.le_refl _) (Nat.lt_succ_self _) rfl (by unfold maxLen; omega)) (fun a ha => by injection ha with ha; subst ha; rfl) (wr.heap.size + 1))
        clear hd hs hbel
        go_wp2_with (at_builtin; refine wpList_accMany rfl _ _ 22 rfl 5 _ 1 1 Tryz.underlying22 info_u8 rfl (by decide) (by decide) acc0.out (by simp) rfl g 0 ds.length c (bytesV ds) rfl (by rw [bytesV_len]; omega) (fun j u hu => by rw [Nat.zero_add, hsn.out.cellAt j (by have := (List.getElem?_eq_some_iff.1 hu).1; rw [bytesV_len] at this; omega)]; exact hu) (bytesV_one ds) (by omega) ?_; intro A2 d2 w9 hacc2; rw [Nat.add_comm 1 ds.length] at hacc2; rw [Nat.add_comm 1 ds.length]; have HA2 := Lib.hid hacc2; clear hacc2)
        have s2 := HA2.out.sl (lo := w.heap.size) (by omega) (by omega)
        obtain ⟨g2, rfl, _, _, _⟩ := s2.lt (by omega)
        have HF := Lib.hid ((HB.out.alloc zr (.cells #[.int .u8 (48 + (q : Int) % 10)] 5)).trans (HA2.out.below (by omega) (by omega)))
        have HS2 := Lib.hid s2
        clear s2
        go_wp2
        go_roundw
        case rel =>
          have he : [Value.int .u8 (48 + (q : Int) % 10)] ++ bytesV ds = bytesV (UInt8.ofNat (48 + q % 10) :: ds) := by
            show _ = Value.int .u8 _ :: bytesV ds
            rw [hdc.out]
            rfl
          have h9 := HS2.out
          rw [he] at h9
          exact ⟨q / 10, _ :: ds, g2, d2, rfl, by rw [Int.natCast_ediv]; rfl, by omega, by rw [HD.out, hst.out, List.append_assoc]; rfl, h9, HF.out⟩
        case measure => simp [intOf]; omega
set_option maxHeartbeats 2000000 in
set_option maxRecDepth 100000 in
theorem l01Dec_any (n : Int) (w : World) (h0 : -9223372036854775808 ≤ n) (h1 : n ≤ 9223372036854775807) :
    Calls Tryz.prog 85 #[.int .i64 n] w fun e w' => e = .returned (.string (asBytes (itoa n))) ∧ Below w.heap.size w w' := by
  rcases Int.lt_trichotomy n 0 with h | h | h
  · exact decNeg_any n w h h0
  · subst h
    rw [itoa_zero]
    go_enter Tryz.func85, Tryz.ntmps85
    go_wp2
    go_loopw [3, 4] (fun s k wr => s = .slice (some ⟨w.heap.size, 0, none⟩) 0 0 ∧ k = .int .i64 0 ∧ Below w.heap.size w wr) (fun _ k _ => (intOf k).toNat)
    case atStart => exact ⟨rfl, rfl, (Below.refl _ _).alloc (Nat.le_refl _) _⟩
    case round =>
      obtain ⟨rfl, rfl, hbel⟩ := hrel
      go_wp2
      go_ret
      exact ⟨rfl, hbel⟩
  · exact decPos_any n w h h1
end Go.Proofs.YtjmlcobbjpmjpaaGreatDoor
namespace Go.Proofs.YtjmlcobbjpmjpaaGreatDoor
open Go.RowKit Go.Lib

def TabP (w : World) : Prop := Lib.TabIs Tryz.prog w "internal/strconv.uint64pow10" .u64 Lib.pow10Tab
theorem tabUp {w w' : World} (h : TabP w) (hb : Below w.heap.size w w') : TabP w' := by
  unfold TabP Lib.TabIs World.var? at h ⊢
  cases hg : Tryz.prog.globalNamed "internal/strconv.uint64pow10" with
  | none => rw [hg] at h; cases h
  | some g =>
    rw [hg] at h
    simp only [Option.bind_some] at h ⊢
    have hlt : g < w.heap.size := by
      rcases Nat.lt_or_ge g w.heap.size with h' | h'
      · exact h'
      · rw [Array.getElem?_eq_none h'] at h; cases h
    rw [hb.block g hlt]
    exact h
theorem below_grow (w : World) (k : Nat) (os : Array Obj) : Below w.heap.size w (Sort.grow (w.drewN k) os) :=
  ⟨rfl, rfl, rfl, by simp, fun q hq => Sort.heap_grow_old (w.drewN k) os hq⟩
theorem decimal_any (n : Int) (w : World) (h0 : -9223372036854775808 ≤ n) (h1 : n ≤ 9223372036854775807) (ht : TabP w) :
    Calls Tryz.prog 84 #[.int .i64 n] w fun e w' => e = .returned (.string (asBytes (itoa n))) ∧ Below w.heap.size w w' := by
  go_enter Tryz.func84, Tryz.ntmps84
  go_wp2_with fail
  refine (Tryz.strconv_FormatInt_10 n h0 h1 _ ht).mono ?_
  rintro e w1 ⟨rfl, k, os, rfl⟩
  have hb := Lib.hid (below_grow w k os)
  obtain ⟨w1, hw1⟩ : ∃ y, Sort.grow (w.drewN k) os = y := ⟨_, rfl⟩
  rw [hw1] at hb ⊢
  clear hw1
  go_wp2
  go_ret
  exact ⟨rfl, hb.out⟩
end Go.Proofs.YtjmlcobbjpmjpaaGreatDoor
namespace Go.Proofs.YtjmlcobbjpmjpaaGreatDoor
open Go.RowKit Go.ChangeShapes Go.WideShapes Go.Deep

theorem I64_of_wf {x : Int} (h : (Lit.int .i64 x).wf = true) : I64 x := bounds_i64 h

theorem exists_list {α : Type} {p : Nat → α → Prop} : ∀ n : Nat, (∀ i, i < n → ∃ x, p i x) → ∃ l : List α, l.length = n ∧ ∀ i x, l[i]? = some x → p i x
  | 0, _ => ⟨[], rfl, fun i x h => by simp at h⟩
  | n + 1, h => by
    obtain ⟨l, hl, hp⟩ := exists_list n (fun i hi => h i (by omega))
    obtain ⟨x, hx⟩ := h n (by omega)
    refine ⟨l ++ [x], by simp [hl], fun i y hy => ?_⟩
    by_cases hi : i < n
    · rw [List.getElem?_append_left (by omega)] at hy
      exact hp i y hy
    · rw [List.getElem?_append_right (by omega)] at hy
      by_cases e : i = n
      · subst e; simp [hl] at hy; subst hy; exact hx
      · rw [List.getElem?_eq_none (by simp; omega)] at hy; cases hy

section
variable {H : Type} {enc : TypeId × Value → H} {P : Program} {w : World} {base : Nat} {spare : Nat → Bool} {held : Bool}
/-- A struct of one-cell fields: each field's own reading, at its cell. -/
theorem trod_fields {e : TypeId} {fs : Array Field} {n : Nat} {cs : List Value} {y : DataW H × List MemPlace} (he : P.underlying e = some (.struct fs)) (hone : oneCellFields P fs = true) (hl : cs.length = fs.size)
    (ht : DataW.trod enc P w base spare held n e cs = some y) : ∃ n', ∀ (j : Nat) (f : Field), fs[j]? = some f → ∃ (v : Value) (z : DataW H × List MemPlace), cs[j]? = some v ∧ DataW.trod enc P w base spare held n' f.type [v] = some z := by
  obtain ⟨ys, n', _, _, _, hyl, hf⟩ := DataW.trod_struct he ht
  refine ⟨n', fun j f hj => ?_⟩
  obtain ⟨ho, hk⟩ := hone_of hone j f hj
  have hjl : j < fs.size := (Array.getElem?_eq_some_iff.1 hj).1
  have h1 := hf j f hj
  rw [ho, hk] at h1
  have h2 : (cs.drop j).take 1 = [cs[j]'(by omega)] := by
    rw [List.drop_eq_getElem_cons (by omega)]
    rfl
  rw [h2, List.getElem?_eq_getElem (by omega)] at h1
  exact ⟨_, _, List.getElem?_eq_getElem (by omega), h1⟩
theorem field_int {n : Nat} {k : IntKind} {t : TypeId} {v : Value} {z : DataW H × List MemPlace} (ht : P.underlying t = some (.int k)) (h : DataW.trod enc P w base spare held n t [v] = some z) : ∃ x : Int, v = .int k x ∧ (Lit.int k x).wf = true := by
  obtain ⟨x, hx, _, hw⟩ := DataW.trod_int ht h
  injection hx with hx
  exact ⟨x, hx, hw⟩
theorem field_string {n : Nat} {t : TypeId} {v : Value} {z : DataW H × List MemPlace} (ht : P.underlying t = some .string) (h : DataW.trod enc P w base spare held n t [v] = some z) : ∃ s : ByteArray, v = .string s ∧ s.size ≤ maxLen := by
  obtain ⟨x, hx, _, hw⟩ := DataW.trod_string ht h
  injection hx with hx
  exact ⟨x, hx, hw⟩
theorem list2 {β : Type} {l : List β} (h : l.length = 2) {a b : β} (h0 : l[0]? = some a) (h1 : l[1]? = some b) : l = [a, b] := by
  apply List.ext_getElem?
  intro i
  match i with
  | 0 => simpa using h0
  | 1 => simpa using h1
  | i + 2 => rw [List.getElem?_eq_none (by omega)]; simp
theorem list3 {β : Type} {l : List β} (h : l.length = 3) {a b c : β} (h0 : l[0]? = some a) (h1 : l[1]? = some b) (h2 : l[2]? = some c) : l = [a, b, c] := by
  apply List.ext_getElem?
  intro i
  match i with
  | 0 => simpa using h0
  | 1 => simpa using h1
  | 2 => simpa using h2
  | i + 3 => rw [List.getElem?_eq_none (by omega)]; simp
theorem list5 {β : Type} {l : List β} (h : l.length = 5) {a b c d e : β} (h0 : l[0]? = some a) (h1 : l[1]? = some b) (h2 : l[2]? = some c) (h3 : l[3]? = some d) (h4 : l[4]? = some e) : l = [a, b, c, d, e] := by
  apply List.ext_getElem?
  intro i
  match i with
  | 0 => simpa using h0
  | 1 => simpa using h1
  | 2 => simpa using h2
  | 3 => simpa using h3
  | 4 => simpa using h4
  | i + 5 => rw [List.getElem?_eq_none (by omega)]; simp

theorem open_list {α : Type} (cell : α → List Value) (m : Nat) (good : α → Prop) (hm : ∀ x, (cell x).length = m) {t e : TypeId} {fuel : Nat} {cs : List Value} {x : DataW H × List MemPlace}
    (ht : P.underlying t = some (.slice e)) (hC : P.cellsOf e = m) (h0 : 0 < m)
    (hread : ∀ (n : Nat) (cs' : List Value) (y : DataW H × List MemPlace), cs'.length = m → DataW.trod enc P w base spare held n e cs' = some y → ∃ x, cell x = cs' ∧ good x)
    (h : DataW.trod enc P w base spare held fuel t cs = some x) :
    ∃ (A : Option Addr) (len cap : Nat) (l : List α), cs = [.slice A len cap] ∧ len ≤ 9223372036854775807 ∧ Reads w w.heap.size m A len (l.flatMap cell) ∧ ∀ x ∈ l, good x := by
  rcases open_slice ht h with ⟨rfl, _⟩ | ⟨a, len, cap, M, n, D, Pl, rfl, hb, hl, hcm, hmm, _, hi⟩
  · exact ⟨none, 0, 0, [], rfl, by omega, ⟨by simp, fun h => absurd h (by omega)⟩, fun x hx => by cases hx⟩
  · have hlM : len ≤ M := by rw [hmm]; split <;> omega
    obtain ⟨l, hll, hp⟩ := exists_list (p := fun i x => good x ∧ ∀ j, j < m → w.cell? ((a.add (i * m)).add j) = (cell x)[j]?) len (fun i hi' => by
      obtain ⟨cs', h1, h2⟩ := hi i (by omega)
      rw [hC] at h1
      obtain ⟨_, hcl, hat⟩ := World.cells?_some h1
      obtain ⟨x, rfl, hg⟩ := hread n _ _ hcl h2
      exact ⟨x, hg, hat⟩)
    refine ⟨some a, len, cap, l, rfl, by unfold maxLen at hcm; omega, ⟨?_, fun hn => ?_⟩, fun x hx => ?_⟩
    · rw [flat_length cell m hm, hll]
    · have hcell : ∀ i j, i < len → j < m → ∃ u, (l.flatMap cell)[i * m + j]? = some u ∧ w.cell? (a.add (i * m + j)) = some u := by
        intro i j hi' hj
        have hx : l[i]? = some (l[i]'(by omega)) := List.getElem?_eq_getElem (by omega)
        have h1 := (hp i _ hx).2 j hj
        rw [Go.Deep.add_add] at h1
        have h2 := flat_get cell m hm l i _ hx j hj
        have h3 : (cell (l[i]'(by omega)))[j]? = some ((cell (l[i]'(by omega)))[j]'(by rw [hm]; exact hj)) := List.getElem?_eq_getElem _
        exact ⟨_, h2.trans h3, h1.trans h3⟩
      obtain ⟨b, off, spot⟩ := a
      obtain ⟨u0, _, hc0⟩ := hcell 0 0 hn h0
      have hspot : spot = none := by simpa [Addr.add] using World.cell?_spot hc0
      subst hspot
      have hblk : b < w.heap.size := by simpa [Addr.add] using World.block_lt_of_cell? w _ hc0
      refine ⟨_, rfl, rfl, hblk, fun q u hu => ?_⟩
      have hq : q < len * m := by
        have := (List.getElem?_eq_some_iff.1 hu).1
        rwa [flat_length cell m hm, hll] at this
      have hqi : q / m < len := Nat.div_lt_of_lt_mul (by rw [Nat.mul_comm]; exact hq)
      obtain ⟨u', h1, h2⟩ := hcell (q / m) (q % m) hqi (Nat.mod_lt _ h0)
      rw [Nat.div_add_mod'] at h1 h2
      rw [hu] at h1
      injection h1 with h1
      subst h1
      have e : (⟨b, off, none⟩ : Addr).add q = ⟨b, off + q, none⟩ := by unfold Addr.add; split <;> simp_all
      rw [e] at h2
      exact h2
    · obtain ⟨j, hj, rfl⟩ := List.mem_iff_getElem.1 hx
      exact (hp j _ (List.getElem?_eq_getElem hj)).1
end
end Go.Proofs.YtjmlcobbjpmjpaaGreatDoor
namespace Go.Proofs.YtjmlcobbjpmjpaaGreatDoor
open Go.RowKit

def dgt (j : Nat) : UInt8 := UInt8.ofNat (48 + j % 10)
/-- The digits of k ahead of acc, with enough fuel. -/
def digs : Nat → Nat → List UInt8 → List UInt8
  | 0, _, acc => acc
  | f + 1, k, acc => if k = 0 then acc else digs f (k / 10) (dgt k :: acc)
def mkText (k : Nat) : ByteArray := ⟨(109 :: (if k = 0 then [48] else digs k k [])).toArray⟩
theorem digs_zero (f : Nat) (acc : List UInt8) : digs f 0 acc = acc := by cases f <;> simp [digs]
theorem digs_step {f k : Nat} (acc : List UInt8) (h : 0 < k) (hf : k ≤ f) : digs f k acc = digs (f - 1) (k / 10) (dgt k :: acc) := by
  obtain ⟨g, rfl⟩ : ∃ g, f = g + 1 := ⟨f - 1, by omega⟩
  rw [digs, if_neg (by omega)]
  rfl

theorem ba_append (x y : List UInt8) : (⟨x.toArray⟩ : ByteArray) ++ (⟨y.toArray⟩ : ByteArray) = ⟨(x ++ y).toArray⟩ := by
  apply ByteArray.ext
  simp [ByteArray.data_append]
theorem conv_digit (j : Nat) (w : World) : (convert 22 9 (.slice (some ⟨w.heap.size, 0, none⟩) 1 1)).run Tryz.prog (w.alloc (.cells #[.int .u8 (48 + (j : Int) % 10)] 5)) = .ok (.string ⟨[dgt j].toArray⟩) (w.alloc (.cells #[.int .u8 (48 + (j : Int) % 10)] 5)) := by
  have hc : ∀ i : Nat, i < 1 → (w.alloc (.cells #[.int .u8 (48 + (j : Int) % 10)] 5)).cell? ⟨w.heap.size, 0 + i, none⟩ = some (.int .u8 (([48 + (j : Int) % 10] : List Int).getD i 0)) := by
    intro i hi
    obtain rfl : i = 0 := by omega
    rw [World.cell?_alloc_at _ _ _ _ rfl]
    rfl
  rw [run_convert_bytes_arg (P := Tryz.prog) (w.alloc (.cells #[.int .u8 (48 + (j : Int) % 10)] 5)) 22 5 Tryz.underlying22 Tryz.underlying5 w.heap.size 0 1 1 [48 + (j : Int) % 10] rfl hc 9 Tryz.underlying9]
  have e : (48 + (j : Int) % 10).toNat = 48 + j % 10 := by omega
  simp [strOfNums, dgt, e]

end Go.Proofs.YtjmlcobbjpmjpaaGreatDoor
namespace Go.Proofs.YtjmlcobbjpmjpaaGreatDoor
open Go.RowKit Go.ChangeShapes Go.WideShapes Go.Deep

structure Cl where
  name : ByteArray
  station : Int
  from_ : Int
  to_ : Int
  quota : Int

def Cl.good (x : Cl) : Prop := x.name.size ≤ 9223372036854775807 ∧ I64 x.station ∧ I64 x.from_ ∧ I64 x.to_ ∧ I64 x.quota
def Cl.small (x : Cl) : Prop := x.name.size ≤ 1048576
def cellsCl (x : Cl) : List Value := [.string x.name, .int .i64 x.station, .int .i64 x.from_, .int .i64 x.to_, .int .i64 x.quota]
def clv (x : Cl) : Value := .agg #[.string x.name, .int .i64 x.station, .int .i64 x.from_, .int .i64 x.to_, .int .i64 x.quota]
def cls (l : List Cl) : List Value := l.flatMap cellsCl
theorem cls_length (l : List Cl) : (cls l).length = l.length * 5 := flat_length cellsCl 5 (fun _ => rfl) l
theorem cls_get {l : List Cl} {k : Nat} {x : Cl} (h : l[k]? = some x) : (cls l)[k * 5]? = some (.string x.name) ∧ (cls l)[k * 5 + 1]? = some (.int .i64 x.station) ∧ (cls l)[k * 5 + 2]? = some (.int .i64 x.from_) ∧ (cls l)[k * 5 + 3]? = some (.int .i64 x.to_) ∧ (cls l)[k * 5 + 4]? = some (.int .i64 x.quota) :=
  ⟨flat_get cellsCl 5 (fun _ => rfl) l k x h 0 (by omega), flat_get cellsCl 5 (fun _ => rfl) l k x h 1 (by omega), flat_get cellsCl 5 (fun _ => rfl) l k x h 2 (by omega), flat_get cellsCl 5 (fun _ => rfl) l k x h 3 (by omega), flat_get cellsCl 5 (fun _ => rfl) l k x h 4 (by omega)⟩
theorem cls_len {w : World} {B n : Nat} {A : Option Addr} {l : List Cl} (h : Reads w B 5 A n (cls l)) : l.length = n := by
  have := h.1
  rw [cls_length] at this
  omega
theorem cl_at {w : World} {B n k : Nat} {A : Option Addr} {l : List Cl} (h : Reads w B 5 A n (cls l)) (hk : k < n) :
    ∃ (x : Cl) (b off : Nat), l[k]? = some x ∧ A = some ⟨b, off, none⟩ ∧ b < B ∧ w.cell? ⟨b, off + k * 5, none⟩ = some (.string x.name) ∧ w.cell? ⟨b, off + k * 5 + 1, none⟩ = some (.int .i64 x.station) ∧ w.cell? ⟨b, off + k * 5 + 2, none⟩ = some (.int .i64 x.from_) ∧ w.cell? ⟨b, off + k * 5 + 3, none⟩ = some (.int .i64 x.to_) ∧ w.cell? ⟨b, off + k * 5 + 4, none⟩ = some (.int .i64 x.quota) := by
  obtain ⟨b, off, rfl, hb, hcell⟩ := h.at_ (by omega)
  have hl := cls_len h
  have he : l[k]? = some l[k] := List.getElem?_eq_getElem (by omega)
  obtain ⟨e0, e1, e2, e3, e4⟩ := cls_get he
  exact ⟨_, b, off, he, rfl, hb, hcell _ _ e0, hcell _ _ e1, hcell _ _ e2, hcell _ _ e3, hcell _ _ e4⟩

section
variable {H : Type} {enc : TypeId × Value → H} {w : World}
end

theorem make_cl (n : Nat) (hn : n ≤ 1048576) : ∀ w : World, (Instr.makeSlice 46 (.int .i64 (n : Int)) (.int .i64 (n : Int))).run Tryz.prog w = .ok (.slice (some ⟨w.heap.size, 0, none⟩) n n) (w.alloc (.cells (madeCells #[.string ⟨#[]⟩, .int .i64 0, .int .i64 0, .int .i64 0, .int .i64 0] (n * 5)) 48)) :=
  run_make_small 46 48 (.agg #[.string ⟨#[]⟩, .int .i64 0, .int .i64 0, .int .i64 0, .int .i64 0]) 5 48 Tryz.underlying46 (by kernel_rfl) (by decide) n hn
/-- What the marks from k0 on make of element i. -/
def clMark (k0 i : Nat) : List Value := [.string (mkText (k0 + 5 * i)), .int .i64 ((k0 : Int) + 5 * (i : Int) + 1), .int .i64 ((k0 : Int) + 5 * (i : Int) + 1 + 1), .int .i64 ((k0 : Int) + 5 * (i : Int) + 1 + 1 + 1), .int .i64 ((k0 : Int) + 5 * (i : Int) + 1 + 1 + 1 + 1)]
def clMarks (k0 n : Nat) : List Value := (List.range n).flatMap (clMark k0)
theorem clMarks_length (k0 n : Nat) : (clMarks k0 n).length = n * 5 := by rw [clMarks, flat_length (clMark k0) 5 (fun _ => rfl)]; simp
theorem clMarks_get {k0 n k : Nat} (h : k < n) (j : Nat) (hj : j < 5) : (clMarks k0 n)[k * 5 + j]? = (clMark k0 k)[j]? := flat_get (clMark k0) 5 (fun _ => rfl) (List.range n) k k (by simp [h]) j hj
end Go.Proofs.YtjmlcobbjpmjpaaGreatDoor
namespace Go.Proofs.YtjmlcobbjpmjpaaGreatDoor
open Go.RowKit

def nameC (c : UInt8) : Bool := inR c.toNat 97 122 || inR c.toNat 48 57 || decide ((c.toNat : Int) = 45)
def headS : List UInt8 → Bool
  | [] => false
  | c :: _ => inR c.toNat 97 122
/-- A name. -/
def isName (s : ByteArray) : Bool := decide (s.size ≤ 12) && headS s.data.toList && s.data.toList.all nameC
theorem byte_at (s : ByteArray) (k : Nat) (h : k < s.size) : s.data.toList[k]? = some s[k] := by
  rw [List.getElem?_eq_getElem (by simpa using h)]; rfl
theorem data_len (s : ByteArray) : s.data.toList.length = s.size := by rw [Array.length_toList]; rfl
theorem headS_at (s : ByteArray) (h : 0 < s.size) : headS s.data.toList = inR (s[0].toNat : Int) 97 122 := by
  have := byte_at s 0 h
  cases hl : s.data.toList with
  | nil => rw [hl] at this; simp at this
  | cons c r => rw [hl] at this; simp at this; rw [← this]; rfl
theorem isName_len {s : ByteArray} (h : isName s = true) : 0 < s.size ∧ s.size ≤ 12 := by
  simp only [isName, Bool.and_eq_true, decide_eq_true_eq] at h
  refine ⟨?_, h.1.1⟩
  rcases Nat.eq_zero_or_pos s.size with h0 | h0
  · have : s.data.toList = [] := List.eq_nil_of_length_eq_zero (by rw [data_len]; exact h0)
    rw [this] at h; simp [headS] at h
  · exact h0
theorem notName_long {s : ByteArray} (h : 12 < s.size) : isName s = false := by simp [isName]; omega
theorem notName_empty {s : ByteArray} (h : s.size = 0) : isName s = false := by
  have : s.data.toList = [] := List.eq_nil_of_length_eq_zero (by rw [data_len]; exact h)
  simp [isName, this, headS]
theorem notName_head {s : ByteArray} (h0 : 0 < s.size) (h : inR (s[0].toNat : Int) 97 122 = false) : isName s = false := by simp [isName, headS_at s h0, h]
theorem notName_at {s : ByteArray} {k : Nat} (h0 : k < s.size) (h : nameC s[k] = false) : isName s = false := by simp [isName, all_bad (byte_at s k h0) h]
theorem isName_mk {s : ByteArray} {k : Nat} (h1 : s.size ≤ 12) (h0 : 0 < s.size) (h2 : inR (s[0].toNat : Int) 97 122 = true) (hk : s.size = k) (h : AllTo nameC s.data.toList k) : isName s = true := by
  simp only [isName, headS_at s h0, h2, h.done (by rw [data_len]; exact hk), Bool.and_true, decide_eq_true_eq]
  exact h1

theorem implIsName_any (s : ByteArray) (w : World) (hs : s.size ≤ 9223372036854775807) : Calls Tryz.prog 135 #[.string s] w fun e w' => e = .returned (.bool (isName s)) ∧ w = w' := by
  by_cases h0 : s.size = 0
  · have HN := Lib.hid (notName_empty h0)
    have h1 : (s.size : Int) < 1 := by omega
    clear h0
    go_enter Tryz.func135, Tryz.ntmps135
    go_wp2
    go_ret
    exact ⟨ret_bool HN.out.symm, rfl⟩
  · have hp : 0 < s.size := by omega
    clear h0
    by_cases h12 : 12 < s.size
    · have HN := Lib.hid (notName_long h12)
      go_enter Tryz.func135, Tryz.ntmps135
      go_wp2
      go_ret
      exact ⟨ret_bool HN.out.symm, rfl⟩
    · have i1 : (1 : Int) ≤ (s.size : Int) := by omega
      have i2 : (s.size : Int) ≤ 12 := by omega
      by_cases h97 : (97 : Int) ≤ (s[0].toNat : Int)
      · by_cases h122 : (s[0].toNat : Int) ≤ 122
        · have HH := Lib.hid (show inR (s[0].toNat : Int) 97 122 = true from inR_true.2 ⟨h97, h122⟩)
          have HN0 := Lib.hid (show nameC s[0] = true by simp [nameC, HH.out])
          go_enter Tryz.func135, Tryz.ntmps135
          go_wp2
          go_loop [3] (fun i => ∃ k : Nat, 1 ≤ k ∧ k ≤ s.size ∧ i = .int .i64 k ∧ AllTo nameC s.data.toList k) (fun i => s.size - (intOf i).toNat)
          case atStart => exact ⟨1, by omega, by omega, rfl, (AllTo.zero _ _).step (byte_at s 0 hp) HN0.out⟩
          case round =>
            obtain ⟨k, hk1, hk, rfl, hall⟩ := hrel
            have HA := Lib.hid hall
            clear hall h97 h122
            by_cases hlt : k < s.size
            · have HE := Lib.hid (byte_at s k hlt)
              by_cases a1 : (97 : Int) ≤ (s[k].toNat : Int) ∧ (s[k].toNat : Int) ≤ 122
              · obtain ⟨a1, a2⟩ := a1
                have HC := Lib.hid (show nameC s[k] = true by simp [nameC, inR_true.2 ⟨a1, a2⟩])
                go_wp2
                go_round
                case rel => exact ⟨k + 1, by omega, by omega, by go_num, HA.out.step HE.out HC.out⟩
                case measure => simp [intOf]; omega
              · by_cases b1 : (48 : Int) ≤ (s[k].toNat : Int) ∧ (s[k].toNat : Int) ≤ 57
                · obtain ⟨b1, b2⟩ := b1
                  have a2 : (s[k].toNat : Int) < 97 := by omega
                  have HC := Lib.hid (show nameC s[k] = true by simp [nameC, inR_true.2 ⟨b1, b2⟩])
                  clear a1
                  go_wp2
                  go_round
                  case rel => exact ⟨k + 1, by omega, by omega, by go_num, HA.out.step HE.out HC.out⟩
                  case measure => simp [intOf]; omega
                · by_cases c1 : (s[k].toNat : Int) = 45
                  · have HC := Lib.hid (show nameC s[k] = true by simp [nameC, c1])
                    have c2 : ((s[k].toNat : Int) != 45) = false := by simp [c1]
                    have c3 : (s[k].toNat : Int) < 48 := by omega
                    have c4 : (s[k].toNat : Int) < 97 := by omega
                    clear a1 b1 c1
                    go_wp2
                    go_round
                    case rel => exact ⟨k + 1, by omega, by omega, by go_num, HA.out.step HE.out HC.out⟩
                    case measure => simp [intOf]; omega
                  · have HC := Lib.hid (notName_at hlt (show nameC s[k] = false by
                      have e1 : inR (s[k].toNat : Int) 97 122 = false := inR_false.2 (by omega)
                      have e2 : inR (s[k].toNat : Int) 48 57 = false := inR_false.2 (by omega)
                      simp [nameC, e1, e2, c1]))
                    have c2 : ((s[k].toNat : Int) != 45) = true := by rw [bne_iff_ne]; exact c1
                    have a3 : (s[k].toNat : Int) < 97 ∨ 122 < (s[k].toNat : Int) := by omega
                    have b3 : (s[k].toNat : Int) < 48 ∨ 57 < (s[k].toNat : Int) := by omega
                    clear a1 b1 c1
                    rcases a3 with a3 | a3 <;> rcases b3 with b3 | b3
                    all_goals first
                      | omega
                      | (go_wp2
                         go_ret
                         exact ⟨ret_bool HC.out.symm, rfl⟩)
            · obtain rfl : s.size = k := by omega
              have HN := Lib.hid (isName_mk (by omega) hp HH.out rfl HA.out)
              go_wp2
              go_ret
              exact ⟨ret_bool HN.out.symm, rfl⟩
        · have HN := Lib.hid (notName_head hp (inR_false.2 (.inr (by omega))))
          go_enter Tryz.func135, Tryz.ntmps135
          go_wp2
          go_ret
          exact ⟨ret_bool HN.out.symm, rfl⟩
      · have HN := Lib.hid (notName_head hp (inR_false.2 (.inl (by omega))))
        go_enter Tryz.func135, Tryz.ntmps135
        go_wp2
        go_ret
        exact ⟨ret_bool HN.out.symm, rfl⟩

theorem l01Small_any (c : Int) (w : World) : Calls Tryz.prog 177 #[.int .u8 c] w fun e w' => e = .returned (.bool (inR c 97 122)) ∧ w = w' := by
  by_cases h1 : (97 : Int) ≤ c <;> by_cases h2 : c ≤ 122
  all_goals
    go_enter Tryz.func177, Tryz.ntmps177
    go_wp2
    go_ret
    exact ⟨ret_bool (by simp [inR, h1, h2]), rfl⟩
theorem l01Digit_any (c : Int) (w : World) : Calls Tryz.prog 158 #[.int .u8 c] w fun e w' => e = .returned (.bool (inR c 48 57)) ∧ w = w' := by
  by_cases h1 : (48 : Int) ≤ c <;> by_cases h2 : c ≤ 57
  all_goals
    go_enter Tryz.func158, Tryz.ntmps158
    go_wp2
    go_ret
    exact ⟨ret_bool (by simp [inR, h1, h2]), rfl⟩

theorem toList_ne {s : ByteArray} (h : 0 < s.size) : ¬ s.toList = [] := by
  intro e
  have : s.toList.length = s.size := by rw [ByteArray.toList_eq]; exact data_len s
  rw [e] at this
  simp at this; omega
theorem specIsName_any (s : ByteArray) (w : World) (hs : s.size ≤ 9223372036854775807) : Calls Tryz.prog 138 #[.string s] w fun e w' => e = .returned (.bool (isName s)) ∧ w = w' := by
  by_cases h0 : s.size = 0
  · have HN := Lib.hid (notName_empty h0)
    obtain rfl : s = ⟨#[]⟩ := by
      apply ByteArray.ext
      have : s.data.toList = [] := List.eq_nil_of_length_eq_zero (by rw [data_len]; exact h0)
      exact Array.toList_inj.1 (by simpa using this)
    clear h0 hs
    go_enter Tryz.func138, Tryz.ntmps138
    go_wp2
    go_ret
    exact ⟨ret_bool HN.out.symm, rfl⟩
  · have hp : 0 < s.size := by omega
    have ne1 := toList_ne hp
    have ne2 : s.toList.isEmpty = false := by simp [ne1]
    have i1 : (1 : Int) ≤ (s.size : Int) := by omega
    have hI : ((0 : Nat) : Int) < (s.size : Int) := by omega
    clear h0
    by_cases h12 : 12 < s.size
    · have HN := Lib.hid (notName_long h12)
      have i2 : (12 : Int) < (s.size : Int) := by omega
      go_enter Tryz.func138, Tryz.ntmps138
      go_wp2
      go_ret
      exact ⟨ret_bool HN.out.symm, rfl⟩
    · have i2 : (s.size : Int) ≤ 12 := by omega
      by_cases hh : inR (s[0].toNat : Int) 97 122 = true
      · have HH := Lib.hid hh
        go_enter Tryz.func138, Tryz.ntmps138
        go_wp2_with (go_at_call 177; refine (l01Small_any _ _).mono ?_; rintro e w' ⟨rfl, rfl⟩)
        go_loop [3] (fun i => ∃ k : Nat, k ≤ s.size ∧ i = .int .i64 k ∧ AllTo nameC s.data.toList k) (fun i => s.size - (intOf i).toNat)
        case atStart => exact ⟨0, by omega, rfl, AllTo.zero _ _⟩
        case round =>
          obtain ⟨k, hk, rfl, hall⟩ := hrel
          have HA := Lib.hid hall
          clear hall hh
          by_cases hlt : k < s.size
          · have HE := Lib.hid (byte_at s k hlt)
            by_cases a1 : inR (s[k].toNat : Int) 97 122 = true
            · have HC := Lib.hid (show nameC s[k] = true by simp [nameC, a1])
              go_wp2_with (first | (go_at_call 177; refine (l01Small_any _ _).mono ?_; rintro e w' ⟨rfl, rfl⟩) | (go_at_call 158; refine (l01Digit_any _ _).mono ?_; rintro e w' ⟨rfl, rfl⟩))
              go_round
              case rel => exact ⟨k + 1, by omega, by go_num, HA.out.step HE.out HC.out⟩
              case measure => simp [intOf]; omega
            · have a1 : inR (s[k].toNat : Int) 97 122 = false := by simpa using a1
              by_cases b1 : inR (s[k].toNat : Int) 48 57 = true
              · have HC := Lib.hid (show nameC s[k] = true by simp [nameC, b1])
                go_wp2_with (first | (go_at_call 177; refine (l01Small_any _ _).mono ?_; rintro e w' ⟨rfl, rfl⟩) | (go_at_call 158; refine (l01Digit_any _ _).mono ?_; rintro e w' ⟨rfl, rfl⟩))
                go_round
                case rel => exact ⟨k + 1, by omega, by go_num, HA.out.step HE.out HC.out⟩
                case measure => simp [intOf]; omega
              · have b1 : inR (s[k].toNat : Int) 48 57 = false := by simpa using b1
                by_cases c1 : (s[k].toNat : Int) = 45
                · have HC := Lib.hid (show nameC s[k] = true by simp [nameC, c1])
                  have c2 : ((s[k].toNat : Int) != 45) = false := by simp [c1]
                  clear c1
                  go_wp2_with (first | (go_at_call 177; refine (l01Small_any _ _).mono ?_; rintro e w' ⟨rfl, rfl⟩) | (go_at_call 158; refine (l01Digit_any _ _).mono ?_; rintro e w' ⟨rfl, rfl⟩))
                  go_round
                  case rel => exact ⟨k + 1, by omega, by go_num, HA.out.step HE.out HC.out⟩
                  case measure => simp [intOf]; omega
                · have HC := Lib.hid (notName_at hlt (show nameC s[k] = false by simp [nameC, a1, b1, c1]))
                  have c2 : ((s[k].toNat : Int) != 45) = true := by rw [bne_iff_ne]; exact c1
                  clear c1
                  go_wp2_with (first | (go_at_call 177; refine (l01Small_any _ _).mono ?_; rintro e w' ⟨rfl, rfl⟩) | (go_at_call 158; refine (l01Digit_any _ _).mono ?_; rintro e w' ⟨rfl, rfl⟩))
                  go_ret
                  exact ⟨ret_bool HC.out.symm, rfl⟩
          · obtain rfl : s.size = k := by omega
            have HN := Lib.hid (isName_mk (by omega) hp HH.out rfl HA.out)
            go_wp2
            go_ret
            exact ⟨ret_bool HN.out.symm, rfl⟩
      · have hh : inR (s[0].toNat : Int) 97 122 = false := by simpa using hh
        have HN := Lib.hid (notName_head hp hh)
        go_enter Tryz.func138, Tryz.ntmps138
        go_wp2_with (go_at_call 177; refine (l01Small_any _ _).mono ?_; rintro e w' ⟨rfl, rfl⟩)
        go_ret
        exact ⟨ret_bool HN.out.symm, rfl⟩
end Go.Proofs.YtjmlcobbjpmjpaaGreatDoor
namespace Go.Proofs.YtjmlcobbjpmjpaaGreatDoor
open Go.RowKit

theorem l00In_any (n lo hi : Int) (w : World) : Calls Tryz.prog 102 #[.int .i64 n, .int .i64 lo, .int .i64 hi] w fun e w' => e = .returned (.bool (inR n lo hi)) ∧ w = w' := by
  by_cases h1 : lo ≤ n <;> by_cases h2 : n ≤ hi
  all_goals
    go_enter Tryz.func102, Tryz.ntmps102
    go_wp2
    go_ret
    exact ⟨ret_bool (by simp [inR, h1, h2]), rfl⟩

theorem within_any (n lo hi : Int) (w : World) : Calls Tryz.prog 101 #[.int .i64 n, .int .i64 lo, .int .i64 hi] w fun e w' => e = .returned (.bool (inR n lo hi)) ∧ w = w' := by
  by_cases h1 : lo ≤ n <;> by_cases h2 : n ≤ hi
  all_goals
    go_enter Tryz.func101, Tryz.ntmps101
    go_wp2
    go_ret
    exact ⟨ret_bool (by simp [inR, h1, h2]), rfl⟩

theorem isBookDay_any (d : Int) (w : World) : Calls Tryz.prog 134 #[.int .i64 d] w fun e w' => e = .returned (.bool (inR d 0 20000)) ∧ w = w' := by
  go_enter Tryz.func134, Tryz.ntmps134
  go_wp2_with (go_at_call 101; refine (within_any _ _ _ _).mono ?_; rintro e w' ⟨rfl, rfl⟩)
  go_ret
  exact ⟨rfl, rfl⟩
theorem l25Day_any (d : Int) (w : World) : Calls Tryz.prog 80 #[.int .i64 d] w fun e w' => e = .returned (.bool (inR d 0 20000)) ∧ w = w' := by
  go_enter Tryz.func80, Tryz.ntmps80
  go_wp2_with (go_at_call 102; refine (l00In_any _ _ _ _).mono ?_; rintro e w' ⟨rfl, rfl⟩)
  go_ret
  exact ⟨rfl, rfl⟩
theorem l27Day_any (d : Int) (w : World) : Calls Tryz.prog 269 #[.int .i64 d] w fun e w' => e = .returned (.bool (inR d 0 100000)) ∧ w = w' := by
  go_enter Tryz.func269, Tryz.ntmps269
  go_wp2_with (go_at_call 102; refine (l00In_any _ _ _ _).mono ?_; rintro e w' ⟨rfl, rfl⟩)
  go_ret
  exact ⟨rfl, rfl⟩
theorem isContractDay_any (d : Int) (w : World) : Calls Tryz.prog 115 #[.int .i64 d] w fun e w' => e = .returned (.bool (inR d 0 20000)) ∧ w = w' := by
  go_enter Tryz.func115, Tryz.ntmps115
  go_wp2_with (go_at_call 101; refine (within_any _ _ _ _).mono ?_; rintro e w' ⟨rfl, rfl⟩)
  go_ret
  exact ⟨rfl, rfl⟩
end Go.Proofs.YtjmlcobbjpmjpaaGreatDoor
namespace Go.Proofs.YtjmlcobbjpmjpaaGreatDoor
open Go.RowKit

def okCl (x : Cl) : Bool := isName x.name && (inR x.station 0 9 && (inR x.from_ 0 20000 && (inR x.to_ (x.from_ + 1) 20000 && inR x.quota 0 1000)))
theorem okCl_iff {x : Cl} : okCl x = true ↔ isName x.name = true ∧ (0 ≤ x.station ∧ x.station ≤ 9) ∧ (0 ≤ x.from_ ∧ x.from_ ≤ 20000) ∧ (x.from_ + 1 ≤ x.to_ ∧ x.to_ ≤ 20000) ∧ (0 ≤ x.quota ∧ x.quota ≤ 1000) := by
  simp only [okCl, Bool.and_eq_true, inR_true]
/-- One name stands ahead of another. -/
def sless (a b : ByteArray) : Bool := Op.bytesLess a.toList b.toList
def rowCl (l : List Cl) (i : Nat) : Bool := match l[i]? with
  | none => false
  | some x => okCl x && (decide (i = 0) || (match l[i - 1]? with | none => false | some y => sless y.name x.name))
theorem rowCl_bad {l : List Cl} {i : Nat} {x : Cl} (h : l[i]? = some x) (hx : okCl x = false) : rowCl l i = false := by simp [rowCl, h, hx]
theorem rowCl_zero {l : List Cl} {x : Cl} (h : l[0]? = some x) (hx : okCl x = true) : rowCl l 0 = true := by simp [rowCl, h, hx]
theorem rowCl_ok {l : List Cl} {i : Nat} {x y : Cl} (h : l[i]? = some x) (hx : okCl x = true) (hy : l[i - 1]? = some y) (hd : Op.bytesLess y.name.toList x.name.toList = true) : rowCl l i = true := by simp [rowCl, h, hx, hy, sless, hd]
theorem rowCl_late {l : List Cl} {i : Nat} {x y : Cl} (h : l[i]? = some x) (h0 : 0 < i) (hy : l[i - 1]? = some y) (hd : Op.bytesLess y.name.toList x.name.toList = false) : rowCl l i = false := by
  have : i ≠ 0 := by omega
  simp [rowCl, h, hy, sless, hd, this]
def okCls (l : List Cl) : Bool := (List.range l.length).all (rowCl l) && decide (l.length ≤ 30)
theorem crange_at {n k : Nat} (h : k < n) : (List.range n)[k]? = some k := by simp [h]

set_option maxHeartbeats 4000000 in
theorem l24One_any (x : Cl) (b off : Nat) (w : World) (hs : x.name.size ≤ 9223372036854775807) (hg : x.good) (c0 : w.cell? ⟨b, off, none⟩ = some (.string x.name)) (c1 : w.cell? ⟨b, off + 1, none⟩ = some (.int .i64 x.station)) (c2 : w.cell? ⟨b, off + 2, none⟩ = some (.int .i64 x.from_)) (c3 : w.cell? ⟨b, off + 3, none⟩ = some (.int .i64 x.to_)) (c4 : w.cell? ⟨b, off + 4, none⟩ = some (.int .i64 x.quota)) :
    Calls Tryz.prog 96 #[.pointer (some ⟨b, off, none⟩)] w fun e w' => e = .returned (.bool (okCl x)) ∧ ∃ m, w' = w.drewN m := by
  rcases h1 : isName x.name with _ | _
  · have HO := Lib.hid (show okCl x = false by simp [okCl, h1])
    have kN : ∀ W : World, Calls Tryz.prog 138 #[.string x.name] W fun e w' => e = .returned (.bool false) ∧ w' = W := fun W => (specIsName_any _ W hs).mono fun _ _ hh => ⟨by rw [hh.1, h1], hh.2.symm⟩
    clear h1
    go_enter Tryz.func96, Tryz.ntmps96
    go_wp2_with fail
    go_quiet (first | (go_at_call 138; with_reducible exact Calls.quiet_of_same (kN _)))
    go_wp2
    go_ret
    exact ⟨ret_bool HO.out.symm, _, rfl⟩
  · rcases h2 : inR x.station 0 9 with _ | _
    · have HO := Lib.hid (show okCl x = false by simp [okCl, h2])
      have kN : ∀ W : World, Calls Tryz.prog 138 #[.string x.name] W fun e w' => e = .returned (.bool true) ∧ w' = W := fun W => (specIsName_any _ W hs).mono fun _ _ hh => ⟨by rw [hh.1, h1], hh.2.symm⟩
      have kS : ∀ W : World, Calls Tryz.prog 102 #[.int .i64 x.station, .int .i64 0, .int .i64 9] W fun e w' => e = .returned (.bool false) ∧ w' = W := fun W => (l00In_any _ _ _ W).mono fun _ _ hh => ⟨by rw [hh.1, h2], hh.2.symm⟩
      clear h1 h2
      go_enter Tryz.func96, Tryz.ntmps96
      go_wp2_with fail
      go_quiet (first | (go_at_call 138; with_reducible exact Calls.quiet_of_same (kN _)) | (go_at_call 102; with_reducible exact Calls.quiet_of_same (kS _)))
      go_wp2
      go_ret
      exact ⟨ret_bool HO.out.symm, _, rfl⟩
    · rcases h3 : inR x.from_ 0 20000 with _ | _
      · have HO := Lib.hid (show okCl x = false by simp [okCl, h3])
        have kN : ∀ W : World, Calls Tryz.prog 138 #[.string x.name] W fun e w' => e = .returned (.bool true) ∧ w' = W := fun W => (specIsName_any _ W hs).mono fun _ _ hh => ⟨by rw [hh.1, h1], hh.2.symm⟩
        have kS : ∀ W : World, Calls Tryz.prog 102 #[.int .i64 x.station, .int .i64 0, .int .i64 9] W fun e w' => e = .returned (.bool true) ∧ w' = W := fun W => (l00In_any _ _ _ W).mono fun _ _ hh => ⟨by rw [hh.1, h2], hh.2.symm⟩
        have kF : ∀ W : World, Calls Tryz.prog 102 #[.int .i64 x.from_, .int .i64 0, .int .i64 20000] W fun e w' => e = .returned (.bool false) ∧ w' = W := fun W => (l00In_any _ _ _ W).mono fun _ _ hh => ⟨by rw [hh.1, h3], hh.2.symm⟩
        clear h1 h2 h3
        go_enter Tryz.func96, Tryz.ntmps96
        go_wp2_with fail
        go_quiet (first | (go_at_call 138; with_reducible exact Calls.quiet_of_same (kN _)) | (go_at_call 102; with_reducible exact Calls.quiet_of_same (kS _)) | (go_at_call 102; with_reducible exact Calls.quiet_of_same (kF _)))
        go_wp2
        go_ret
        exact ⟨ret_bool HO.out.symm, _, rfl⟩
      · have hf := inR_true.1 h3
        have hw : IntKind.i64.wrap (x.from_ + 1) = x.from_ + 1 := IntWalk.i64_in _ (by omega)
        clear hf
        rcases h4 : inR x.to_ (x.from_ + 1) 20000 with _ | _
        · have HO := Lib.hid (show okCl x = false by simp [okCl, h4])
          have kN : ∀ W : World, Calls Tryz.prog 138 #[.string x.name] W fun e w' => e = .returned (.bool true) ∧ w' = W := fun W => (specIsName_any _ W hs).mono fun _ _ hh => ⟨by rw [hh.1, h1], hh.2.symm⟩
          have kS : ∀ W : World, Calls Tryz.prog 102 #[.int .i64 x.station, .int .i64 0, .int .i64 9] W fun e w' => e = .returned (.bool true) ∧ w' = W := fun W => (l00In_any _ _ _ W).mono fun _ _ hh => ⟨by rw [hh.1, h2], hh.2.symm⟩
          have kF : ∀ W : World, Calls Tryz.prog 102 #[.int .i64 x.from_, .int .i64 0, .int .i64 20000] W fun e w' => e = .returned (.bool true) ∧ w' = W := fun W => (l00In_any _ _ _ W).mono fun _ _ hh => ⟨by rw [hh.1, h3], hh.2.symm⟩
          have kT : ∀ W : World, Calls Tryz.prog 102 #[.int .i64 x.to_, .int .i64 (x.from_ + 1), .int .i64 20000] W fun e w' => e = .returned (.bool false) ∧ w' = W := fun W => (l00In_any _ _ _ W).mono fun _ _ hh => ⟨by rw [hh.1, h4], hh.2.symm⟩
          clear h1 h2 h3 h4
          go_enter Tryz.func96, Tryz.ntmps96
          go_wp2_with fail
          go_quiet (first | (go_at_call 138; with_reducible exact Calls.quiet_of_same (kN _)) | (go_at_call 102; with_reducible exact Calls.quiet_of_same (kS _)) | (go_at_call 102; with_reducible exact Calls.quiet_of_same (kF _)) | (go_at_call 102; with_reducible exact Calls.quiet_of_same (kT _)))
          go_wp2
          go_ret
          exact ⟨ret_bool HO.out.symm, _, rfl⟩
        · rcases h5 : inR x.quota 0 1000 with _ | _
          · have HO := Lib.hid (show okCl x = false by simp [okCl, h5])
            have kN : ∀ W : World, Calls Tryz.prog 138 #[.string x.name] W fun e w' => e = .returned (.bool true) ∧ w' = W := fun W => (specIsName_any _ W hs).mono fun _ _ hh => ⟨by rw [hh.1, h1], hh.2.symm⟩
            have kS : ∀ W : World, Calls Tryz.prog 102 #[.int .i64 x.station, .int .i64 0, .int .i64 9] W fun e w' => e = .returned (.bool true) ∧ w' = W := fun W => (l00In_any _ _ _ W).mono fun _ _ hh => ⟨by rw [hh.1, h2], hh.2.symm⟩
            have kF : ∀ W : World, Calls Tryz.prog 102 #[.int .i64 x.from_, .int .i64 0, .int .i64 20000] W fun e w' => e = .returned (.bool true) ∧ w' = W := fun W => (l00In_any _ _ _ W).mono fun _ _ hh => ⟨by rw [hh.1, h3], hh.2.symm⟩
            have kT : ∀ W : World, Calls Tryz.prog 102 #[.int .i64 x.to_, .int .i64 (x.from_ + 1), .int .i64 20000] W fun e w' => e = .returned (.bool true) ∧ w' = W := fun W => (l00In_any _ _ _ W).mono fun _ _ hh => ⟨by rw [hh.1, h4], hh.2.symm⟩
            have kQ : ∀ W : World, Calls Tryz.prog 102 #[.int .i64 x.quota, .int .i64 0, .int .i64 1000] W fun e w' => e = .returned (.bool false) ∧ w' = W := fun W => (l00In_any _ _ _ W).mono fun _ _ hh => ⟨by rw [hh.1, h5], hh.2.symm⟩
            clear h1 h2 h3 h4 h5
            go_enter Tryz.func96, Tryz.ntmps96
            go_wp2_with fail
            go_quiet (first | (go_at_call 138; with_reducible exact Calls.quiet_of_same (kN _)) | (go_at_call 102; with_reducible exact Calls.quiet_of_same (kS _)) | (go_at_call 102; with_reducible exact Calls.quiet_of_same (kF _)) | (go_at_call 102; with_reducible exact Calls.quiet_of_same (kT _)) | (go_at_call 102; with_reducible exact Calls.quiet_of_same (kQ _)))
            go_wp2
            go_ret
            exact ⟨ret_bool HO.out.symm, _, rfl⟩
          · have HO := Lib.hid (show okCl x = true by simp [okCl, h1, h2, h3, h4, h5])
            have kN : ∀ W : World, Calls Tryz.prog 138 #[.string x.name] W fun e w' => e = .returned (.bool true) ∧ w' = W := fun W => (specIsName_any _ W hs).mono fun _ _ hh => ⟨by rw [hh.1, h1], hh.2.symm⟩
            have kS : ∀ W : World, Calls Tryz.prog 102 #[.int .i64 x.station, .int .i64 0, .int .i64 9] W fun e w' => e = .returned (.bool true) ∧ w' = W := fun W => (l00In_any _ _ _ W).mono fun _ _ hh => ⟨by rw [hh.1, h2], hh.2.symm⟩
            have kF : ∀ W : World, Calls Tryz.prog 102 #[.int .i64 x.from_, .int .i64 0, .int .i64 20000] W fun e w' => e = .returned (.bool true) ∧ w' = W := fun W => (l00In_any _ _ _ W).mono fun _ _ hh => ⟨by rw [hh.1, h3], hh.2.symm⟩
            have kT : ∀ W : World, Calls Tryz.prog 102 #[.int .i64 x.to_, .int .i64 (x.from_ + 1), .int .i64 20000] W fun e w' => e = .returned (.bool true) ∧ w' = W := fun W => (l00In_any _ _ _ W).mono fun _ _ hh => ⟨by rw [hh.1, h4], hh.2.symm⟩
            have kQ : ∀ W : World, Calls Tryz.prog 102 #[.int .i64 x.quota, .int .i64 0, .int .i64 1000] W fun e w' => e = .returned (.bool true) ∧ w' = W := fun W => (l00In_any _ _ _ W).mono fun _ _ hh => ⟨by rw [hh.1, h5], hh.2.symm⟩
            clear h1 h2 h3 h4 h5
            go_enter Tryz.func96, Tryz.ntmps96
            go_wp2_with fail
            go_quiet (first | (go_at_call 138; with_reducible exact Calls.quiet_of_same (kN _)) | (go_at_call 102; with_reducible exact Calls.quiet_of_same (kS _)) | (go_at_call 102; with_reducible exact Calls.quiet_of_same (kF _)) | (go_at_call 102; with_reducible exact Calls.quiet_of_same (kT _)) | (go_at_call 102; with_reducible exact Calls.quiet_of_same (kQ _)))
            go_wp2
            go_ret
            exact ⟨ret_bool HO.out.symm, _, rfl⟩

set_option maxHeartbeats 2000000 in
theorem validClient_any (x : Cl) (w : World) (hs : x.name.size ≤ 9223372036854775807) :
    Calls Tryz.prog 91 #[.agg #[.string x.name, .int .i64 x.station, .int .i64 x.from_, .int .i64 x.to_, .int .i64 x.quota]] w fun e w' => e = .returned (.bool (okCl x)) ∧ Below w.heap.size w w' := by
  rcases h1 : isName x.name with _ | _
  · have HO := Lib.hid (show okCl x = false by simp [okCl, h1])
    go_enter Tryz.func91, Tryz.ntmps91
    go_wp2_with (first | (go_at_call 101; refine (within_any _ _ _ _).mono ?_; rintro e w2 ⟨rfl, rfl⟩) | (go_at_call 135; refine (implIsName_any _ _ hs).mono ?_; rintro e w2 ⟨rfl, rfl⟩))
    go_ret
    exact ⟨ret_bool HO.out.symm, (Below.refl _ _).alloc (Nat.le_refl _) _⟩
  · rcases h2 : inR x.station 0 9 with _ | _
    · have HO := Lib.hid (show okCl x = false by simp [okCl, h2])
      go_enter Tryz.func91, Tryz.ntmps91
      go_wp2_with (first | (go_at_call 101; refine (within_any _ _ _ _).mono ?_; rintro e w2 ⟨rfl, rfl⟩) | (go_at_call 135; refine (implIsName_any _ _ hs).mono ?_; rintro e w2 ⟨rfl, rfl⟩))
      go_ret
      exact ⟨ret_bool HO.out.symm, (Below.refl _ _).alloc (Nat.le_refl _) _⟩
    · by_cases h3 : 0 ≤ x.from_
      case neg =>
        have HO := Lib.hid (show okCl x = false by (rcases h : okCl x with _ | _); (· rfl); (· have := okCl_iff.1 h; omega))
        have h3' : decide (0 ≤ x.from_) = false := decide_eq_false h3
        go_enter Tryz.func91, Tryz.ntmps91
        go_wp2_with (first | (go_at_call 101; refine (within_any _ _ _ _).mono ?_; rintro e w2 ⟨rfl, rfl⟩) | (go_at_call 135; refine (implIsName_any _ _ hs).mono ?_; rintro e w2 ⟨rfl, rfl⟩))
        go_ret
        exact ⟨ret_bool HO.out.symm, (Below.refl _ _).alloc (Nat.le_refl _) _⟩
      case pos =>
        by_cases h4 : x.from_ < x.to_
        case neg =>
          have HO := Lib.hid (show okCl x = false by (rcases h : okCl x with _ | _); (· rfl); (· have := okCl_iff.1 h; omega))
          have h4' : decide (x.from_ < x.to_) = false := decide_eq_false h4
          go_enter Tryz.func91, Tryz.ntmps91
          go_wp2_with (first | (go_at_call 101; refine (within_any _ _ _ _).mono ?_; rintro e w2 ⟨rfl, rfl⟩) | (go_at_call 135; refine (implIsName_any _ _ hs).mono ?_; rintro e w2 ⟨rfl, rfl⟩))
          go_ret
          exact ⟨ret_bool HO.out.symm, (Below.refl _ _).alloc (Nat.le_refl _) _⟩
        case pos =>
          by_cases h5 : x.to_ ≤ 20000
          case neg =>
            have HO := Lib.hid (show okCl x = false by (rcases h : okCl x with _ | _); (· rfl); (· have := okCl_iff.1 h; omega))
            have h5' : decide (x.to_ ≤ 20000) = false := decide_eq_false h5
            go_enter Tryz.func91, Tryz.ntmps91
            go_wp2_with (first | (go_at_call 101; refine (within_any _ _ _ _).mono ?_; rintro e w2 ⟨rfl, rfl⟩) | (go_at_call 135; refine (implIsName_any _ _ hs).mono ?_; rintro e w2 ⟨rfl, rfl⟩))
            go_ret
            exact ⟨ret_bool HO.out.symm, (Below.refl _ _).alloc (Nat.le_refl _) _⟩
          case pos =>
            rcases h6 : inR x.quota 0 1000 with _ | _
            · have HO := Lib.hid (show okCl x = false by simp [okCl, h6])
              go_enter Tryz.func91, Tryz.ntmps91
              go_wp2_with (first | (go_at_call 101; refine (within_any _ _ _ _).mono ?_; rintro e w2 ⟨rfl, rfl⟩) | (go_at_call 135; refine (implIsName_any _ _ hs).mono ?_; rintro e w2 ⟨rfl, rfl⟩))
              go_ret
              exact ⟨ret_bool HO.out.symm, (Below.refl _ _).alloc (Nat.le_refl _) _⟩
            · have HO := Lib.hid (show okCl x = true by have g2 := inR_true.1 h2; have g6 := inR_true.1 h6; exact okCl_iff.2 ⟨h1, g2, ⟨h3, by omega⟩, ⟨by omega, h5⟩, g6⟩)
              go_enter Tryz.func91, Tryz.ntmps91
              go_wp2_with (first | (go_at_call 101; refine (within_any _ _ _ _).mono ?_; rintro e w2 ⟨rfl, rfl⟩) | (go_at_call 135; refine (implIsName_any _ _ hs).mono ?_; rintro e w2 ⟨rfl, rfl⟩))
              go_ret
              exact ⟨ret_bool HO.out.symm, (Below.refl _ _).alloc (Nat.le_refl _) _⟩
end Go.Proofs.YtjmlcobbjpmjpaaGreatDoor
namespace Go.Proofs.YtjmlcobbjpmjpaaGreatDoor
open Go.RowKit Go.Lib

def textCl (x : Cl) : ByteArray := if okCl x = true then x.name ++ ⟨#[64]⟩ ++ asBytes (itoa x.station) ++ ⟨#[32]⟩ ++ asBytes (itoa x.from_) ++ ⟨#[45]⟩ ++ asBytes (itoa x.to_) ++ ⟨#[32, 120]⟩ ++ asBytes (itoa x.quota) else ⟨#[]⟩
theorem textCl_no {x : Cl} (h : okCl x = false) : textCl x = ⟨#[]⟩ := by simp [textCl, h]
theorem textCl_yes {x : Cl} (h : okCl x = true) : textCl x = x.name ++ ⟨#[64]⟩ ++ asBytes (itoa x.station) ++ ⟨#[32]⟩ ++ asBytes (itoa x.from_) ++ ⟨#[45]⟩ ++ asBytes (itoa x.to_) ++ ⟨#[32, 120]⟩ ++ asBytes (itoa x.quota) := by simp only [textCl, h, if_true]

set_option maxHeartbeats 4000000 in
set_option maxRecDepth 100000 in
theorem implClientText_any (x : Cl) (w : World) (hx : x.good) (ht : TabP w) :
    Calls Tryz.prog 38 #[.agg #[.string x.name, .int .i64 x.station, .int .i64 x.from_, .int .i64 x.to_, .int .i64 x.quota]] w fun e w' => e = .returned (.string (textCl x)) ∧ Below w.heap.size w w' := by
  have HT := Lib.hid ht
  clear ht
  rcases h1 : okCl x with _ | _
  · have HO := Lib.hid (textCl_no h1)
    go_enter Tryz.func38, Tryz.ntmps38
    go_wp2_with fail
    obtain ⟨wq, hwq⟩ : ∃ y, w.alloc (.cells #[.string x.name, .int .i64 x.station, .int .i64 x.from_, .int .i64 x.to_, .int .i64 x.quota] 48) = y := ⟨_, rfl⟩
    have bq : Below w.heap.size w wq := by rw [← hwq]; exact (Below.refl _ _).alloc (Nat.le_refl _) _
    rw [hwq]
    clear hwq
    refine (validClient_any x _ hx.1).mono ?_
    rintro e w1 ⟨rfl, b1⟩
    have HB := Lib.hid (bnext bq b1 (Nat.le_refl _))
    clear bq b1
    go_wp2
    go_ret
    exact ⟨by rw [HO.out]; rfl, HB.out⟩
  · have HO := Lib.hid (textCl_yes h1)
    obtain ⟨e1, ⟨s0, s1⟩, ⟨f0, f1⟩, ⟨t0, t1⟩, ⟨q0', q1'⟩⟩ := okCl_iff.1 h1
    have hnm := (isName_len e1).2
    have hs1 : (asBytes (itoa x.station)).size ≤ 20 := by rw [asBytes_size]; exact itoa_len (by omega) (by omega)
    have hs2 : (asBytes (itoa x.from_)).size ≤ 20 := by rw [asBytes_size]; exact itoa_len (by omega) (by omega)
    have hs3 : (asBytes (itoa x.to_)).size ≤ 20 := by rw [asBytes_size]; exact itoa_len (by omega) (by omega)
    have hs4 : (asBytes (itoa x.quota)).size ≤ 20 := by rw [asBytes_size]; exact itoa_len (by omega) (by omega)
    go_enter Tryz.func38, Tryz.ntmps38
    go_wp2_with fail
    obtain ⟨wq, hwq⟩ : ∃ y, w.alloc (.cells #[.string x.name, .int .i64 x.station, .int .i64 x.from_, .int .i64 x.to_, .int .i64 x.quota] 48) = y := ⟨_, rfl⟩
    have bq : Below w.heap.size w wq := by rw [← hwq]; exact (Below.refl _ _).alloc (Nat.le_refl _) _
    have yq : Blk wq w.heap.size 48 #[.string x.name, .int .i64 x.station, .int .i64 x.from_, .int .i64 x.to_, .int .i64 x.quota] := by rw [← hwq]; exact Blk.new _ _ _
    rw [hwq]
    clear hwq
    refine (validClient_any x _ hx.1).mono ?_
    rintro e w1 ⟨rfl, b1⟩
    have y1 := yq.on b1
    have HB := Lib.hid (bnext bq b1 (Nat.le_refl _))
    have HT1 := Lib.hid (tabUp HT.out (bnext bq b1 (Nat.le_refl _)))
    have q0 : w1.cell? ⟨w.heap.size, 0, none⟩ = some (.string x.name) := y1.cellAt 0 (by simp)
    have q1 : w1.cell? ⟨w.heap.size, 1, none⟩ = some (.int .i64 x.station) := y1.cellAt 1 (by simp)
    have q2 : w1.cell? ⟨w.heap.size, 2, none⟩ = some (.int .i64 x.from_) := y1.cellAt 2 (by simp)
    have q3 : w1.cell? ⟨w.heap.size, 3, none⟩ = some (.int .i64 x.to_) := y1.cellAt 3 (by simp)
    have q4 : w1.cell? ⟨w.heap.size, 4, none⟩ = some (.int .i64 x.quota) := y1.cellAt 4 (by simp)
    clear bq b1 yq y1
    have n1 : ¬ (9223372036854775807 < x.name.size + 1) := by omega
    have n2 : ¬ (9223372036854775807 < x.name.size + 1 + (asBytes (itoa x.station)).size) := by omega
    have n3 : ¬ (9223372036854775807 < x.name.size + 1 + (asBytes (itoa x.station)).size + 1) := by omega
    have n4 : ¬ (9223372036854775807 < x.name.size + 1 + (asBytes (itoa x.station)).size + 1 + (asBytes (itoa x.from_)).size) := by omega
    have n5 : ¬ (9223372036854775807 < x.name.size + 1 + (asBytes (itoa x.station)).size + 1 + (asBytes (itoa x.from_)).size + 1) := by omega
    have n6 : ¬ (9223372036854775807 < x.name.size + 1 + (asBytes (itoa x.station)).size + 1 + (asBytes (itoa x.from_)).size + 1 + (asBytes (itoa x.to_)).size) := by omega
    have n7 : ¬ (9223372036854775807 < x.name.size + 1 + (asBytes (itoa x.station)).size + 1 + (asBytes (itoa x.from_)).size + 1 + (asBytes (itoa x.to_)).size + 2) := by omega
    have n8 : ¬ (9223372036854775807 < x.name.size + 1 + (asBytes (itoa x.station)).size + 1 + (asBytes (itoa x.from_)).size + 1 + (asBytes (itoa x.to_)).size + 2 + (asBytes (itoa x.quota)).size) := by omega
    go_wp2_with fail
    go_region_held3 (fun W => Below w1.heap.size w1 W ∧ W.cell? ⟨w.heap.size, 0, none⟩ = some (.string x.name) ∧ W.cell? ⟨w.heap.size, 1, none⟩ = some (.int .i64 x.station) ∧ W.cell? ⟨w.heap.size, 2, none⟩ = some (.int .i64 x.from_) ∧ W.cell? ⟨w.heap.size, 3, none⟩ = some (.int .i64 x.to_) ∧ W.cell? ⟨w.heap.size, 4, none⟩ = some (.int .i64 x.quota)) (first | exact ⟨(Below.refl _ _).drew, q0, q1, q2, q3, q4⟩ | (go_split_ands; exact ⟨bnext (by assumption) hb1 (Nat.le_refl _), cell_on hb1 (by assumption), cell_on hb1 (by assumption), cell_on hb1 (by assumption), cell_on hb1 (by assumption), cell_on hb1 (by assumption)⟩) | fail "keep") (first | (go_at_call 84; go_split_ands; refine (decimal_any _ _ (by omega) (by omega) (tabUp HT1.out (by assumption))).mono ?_; rintro e w2 ⟨rfl, hb1⟩) | fail "arm")
    rename_i hS
    have HF := Lib.hid (bnext HB.out hS.1 (Nat.le_refl _))
    go_wp2
    go_ret
    exact ⟨by rw [HO.out]; rfl, HF.out⟩
end Go.Proofs.YtjmlcobbjpmjpaaGreatDoor
namespace Go.Proofs.YtjmlcobbjpmjpaaGreatDoor
open Go.RowKit Go.ChangeShapes Go.WideShapes Go.Deep

structure En where
  day : Int
  what : ByteArray
  val : Int

def En.good (x : En) : Prop := I64 x.day ∧ x.what.size ≤ 9223372036854775807 ∧ I64 x.val
def En.small (x : En) : Prop := x.what.size ≤ 1048576
def cellsEn (x : En) : List Value := [.int .i64 x.day, .string x.what, .int .i64 x.val]
def env (x : En) : Value := .agg #[.int .i64 x.day, .string x.what, .int .i64 x.val]
def ens (l : List En) : List Value := l.flatMap cellsEn
theorem ens_length (l : List En) : (ens l).length = l.length * 3 := flat_length cellsEn 3 (fun _ => rfl) l
theorem ens_get {l : List En} {k : Nat} {x : En} (h : l[k]? = some x) : (ens l)[k * 3]? = some (.int .i64 x.day) ∧ (ens l)[k * 3 + 1]? = some (.string x.what) ∧ (ens l)[k * 3 + 2]? = some (.int .i64 x.val) :=
  ⟨flat_get cellsEn 3 (fun _ => rfl) l k x h 0 (by omega), flat_get cellsEn 3 (fun _ => rfl) l k x h 1 (by omega), flat_get cellsEn 3 (fun _ => rfl) l k x h 2 (by omega)⟩
theorem ens_len {w : World} {B n : Nat} {A : Option Addr} {l : List En} (h : Reads w B 3 A n (ens l)) : l.length = n := by
  have := h.1
  rw [ens_length] at this
  omega
theorem en_at {w : World} {B n k : Nat} {A : Option Addr} {l : List En} (h : Reads w B 3 A n (ens l)) (hk : k < n) :
    ∃ (x : En) (b off : Nat), l[k]? = some x ∧ A = some ⟨b, off, none⟩ ∧ b < B ∧ w.cell? ⟨b, off + k * 3, none⟩ = some (.int .i64 x.day) ∧ w.cell? ⟨b, off + k * 3 + 1, none⟩ = some (.string x.what) ∧ w.cell? ⟨b, off + k * 3 + 2, none⟩ = some (.int .i64 x.val) := by
  obtain ⟨b, off, rfl, hb, hcell⟩ := h.at_ (by omega)
  have hl := ens_len h
  have he : l[k]? = some l[k] := List.getElem?_eq_getElem (by omega)
  obtain ⟨e0, e1, e2⟩ := ens_get he
  exact ⟨_, b, off, he, rfl, hb, hcell _ _ e0, hcell _ _ e1, hcell _ _ e2⟩

section
variable {H : Type} {enc : TypeId × Value → H} {w : World}
end

theorem make_en (n : Nat) (hn : n ≤ 1048576) : ∀ w : World, (Instr.makeSlice 196 (.int .i64 (n : Int)) (.int .i64 (n : Int))).run Tryz.prog w = .ok (.slice (some ⟨w.heap.size, 0, none⟩) n n) (w.alloc (.cells (madeCells #[.int .i64 0, .string ⟨#[]⟩, .int .i64 0] (n * 3)) 253)) :=
  run_make_small 196 253 (.agg #[.int .i64 0, .string ⟨#[]⟩, .int .i64 0]) 3 32 Tryz.underlying196 (by kernel_rfl) (by decide) n hn
/-- What the marks from k0 on make of element i. -/
def enMark (k0 i : Nat) : List Value := [.int .i64 ((k0 : Int) + 3 * (i : Int)), .string (mkText (k0 + 3 * i + 1)), .int .i64 ((k0 : Int) + 3 * (i : Int) + 1 + 1)]
def enMarks (k0 n : Nat) : List Value := (List.range n).flatMap (enMark k0)
theorem enMarks_length (k0 n : Nat) : (enMarks k0 n).length = n * 3 := by rw [enMarks, flat_length (enMark k0) 3 (fun _ => rfl)]; simp
theorem enMarks_get {k0 n k : Nat} (h : k < n) (j : Nat) (hj : j < 3) : (enMarks k0 n)[k * 3 + j]? = (enMark k0 k)[j]? := flat_get (enMark k0) 3 (fun _ => rfl) (List.range n) k k (by simp [h]) j hj
end Go.Proofs.YtjmlcobbjpmjpaaGreatDoor
namespace Go.Proofs.YtjmlcobbjpmjpaaGreatDoor
open Go.RowKit

def okEn (x : En) : Bool := inR x.day 0 100000 && isName x.what && inR x.val (-1000000) 1000000
theorem l27Ok_any (x : En) (b : Nat) (w : World) (hs : x.what.size ≤ 9223372036854775807) (c0 : w.cell? ⟨b, 0, none⟩ = some (.int .i64 x.day)) (c1 : w.cell? ⟨b, 1, none⟩ = some (.string x.what)) (c2 : w.cell? ⟨b, 2, none⟩ = some (.int .i64 x.val)) :
    Calls Tryz.prog 257 #[.pointer (some ⟨b, 0, none⟩)] w fun e w' => e = .returned (.bool (okEn x)) ∧ w = w' := by
  by_cases h1 : inR x.day 0 100000 = true
  · by_cases h2 : isName x.what = true
    · by_cases h3 : inR x.val (-1000000) 1000000 = true
      · have HO := Lib.hid (show okEn x = true by simp [okEn, h1, h2, h3])
        go_enter Tryz.func257, Tryz.ntmps257
        go_wp2_with (first | (go_at_call 269; refine (l27Day_any _ _).mono ?_; rintro e w' ⟨rfl, rfl⟩) | (go_at_call 138; refine (specIsName_any _ _ hs).mono ?_; rintro e w' ⟨rfl, rfl⟩) | (go_at_call 102; refine (l00In_any _ _ _ _).mono ?_; rintro e w' ⟨rfl, rfl⟩))
        go_ret
        exact ⟨ret_bool HO.out.symm, rfl⟩
      · have h3 : inR x.val (-1000000) 1000000 = false := by simpa using h3
        have HO := Lib.hid (show okEn x = false by simp [okEn, h3])
        go_enter Tryz.func257, Tryz.ntmps257
        go_wp2_with (first | (go_at_call 269; refine (l27Day_any _ _).mono ?_; rintro e w' ⟨rfl, rfl⟩) | (go_at_call 138; refine (specIsName_any _ _ hs).mono ?_; rintro e w' ⟨rfl, rfl⟩) | (go_at_call 102; refine (l00In_any _ _ _ _).mono ?_; rintro e w' ⟨rfl, rfl⟩))
        go_ret
        exact ⟨ret_bool HO.out.symm, rfl⟩
    · have h2 : isName x.what = false := by simpa using h2
      have HO := Lib.hid (show okEn x = false by simp [okEn, h2])
      go_enter Tryz.func257, Tryz.ntmps257
      go_wp2_with (first | (go_at_call 269; refine (l27Day_any _ _).mono ?_; rintro e w' ⟨rfl, rfl⟩) | (go_at_call 138; refine (specIsName_any _ _ hs).mono ?_; rintro e w' ⟨rfl, rfl⟩) | (go_at_call 102; refine (l00In_any _ _ _ _).mono ?_; rintro e w' ⟨rfl, rfl⟩))
      go_ret
      exact ⟨ret_bool HO.out.symm, rfl⟩
  · have h1 : inR x.day 0 100000 = false := by simpa using h1
    have HO := Lib.hid (show okEn x = false by simp [okEn, h1])
    go_enter Tryz.func257, Tryz.ntmps257
    go_wp2_with (first | (go_at_call 269; refine (l27Day_any _ _).mono ?_; rintro e w' ⟨rfl, rfl⟩) | (go_at_call 138; refine (specIsName_any _ _ hs).mono ?_; rintro e w' ⟨rfl, rfl⟩) | (go_at_call 102; refine (l00In_any _ _ _ _).mono ?_; rintro e w' ⟨rfl, rfl⟩))
    go_ret
    exact ⟨ret_bool HO.out.symm, rfl⟩
theorem implValidEntry_any (x : En) (w : World) (hx : x.good) (hsm : x.small) :
    Calls Tryz.prog 263 #[.agg #[.int .i64 x.day, .string x.what, .int .i64 x.val]] w fun e w' => e = .returned (.bool (okEn x)) ∧ Below w.heap.size w w' := by
  have hs : x.what.size ≤ 9223372036854775807 := by unfold En.small at hsm; omega
  clear hsm hx
  by_cases h1 : inR x.day 0 100000 = true
  · by_cases h2 : isName x.what = true
    · by_cases h3 : inR x.val (-1000000) 1000000 = true
      · have HO := Lib.hid (show okEn x = true by simp [okEn, h1, h2, h3])
        go_enter Tryz.func263, Tryz.ntmps263
        go_wp2_with (first | (go_at_call 135; refine (implIsName_any _ _ hs).mono ?_; rintro e w' ⟨rfl, rfl⟩) | (go_at_call 101; refine (within_any _ _ _ _).mono ?_; rintro e w' ⟨rfl, rfl⟩))
        go_ret
        exact ⟨ret_bool HO.out.symm, (Below.refl _ _).alloc (Nat.le_refl _) _⟩
      · have h3 : inR x.val (-1000000) 1000000 = false := by simpa using h3
        have HO := Lib.hid (show okEn x = false by simp [okEn, h3])
        go_enter Tryz.func263, Tryz.ntmps263
        go_wp2_with (first | (go_at_call 135; refine (implIsName_any _ _ hs).mono ?_; rintro e w' ⟨rfl, rfl⟩) | (go_at_call 101; refine (within_any _ _ _ _).mono ?_; rintro e w' ⟨rfl, rfl⟩))
        go_ret
        exact ⟨ret_bool HO.out.symm, (Below.refl _ _).alloc (Nat.le_refl _) _⟩
    · have h2 : isName x.what = false := by simpa using h2
      have HO := Lib.hid (show okEn x = false by simp [okEn, h2])
      go_enter Tryz.func263, Tryz.ntmps263
      go_wp2_with (first | (go_at_call 135; refine (implIsName_any _ _ hs).mono ?_; rintro e w' ⟨rfl, rfl⟩) | (go_at_call 101; refine (within_any _ _ _ _).mono ?_; rintro e w' ⟨rfl, rfl⟩))
      go_ret
      exact ⟨ret_bool HO.out.symm, (Below.refl _ _).alloc (Nat.le_refl _) _⟩
  · have h1 : inR x.day 0 100000 = false := by simpa using h1
    have HO := Lib.hid (show okEn x = false by simp [okEn, h1])
    go_enter Tryz.func263, Tryz.ntmps263
    go_wp2_with (first | (go_at_call 135; refine (implIsName_any _ _ hs).mono ?_; rintro e w' ⟨rfl, rfl⟩) | (go_at_call 101; refine (within_any _ _ _ _).mono ?_; rintro e w' ⟨rfl, rfl⟩))
    go_ret
    exact ⟨ret_bool HO.out.symm, (Below.refl _ _).alloc (Nat.le_refl _) _⟩
end Go.Proofs.YtjmlcobbjpmjpaaGreatDoor
namespace Go.Proofs.YtjmlcobbjpmjpaaGreatDoor
open Go.RowKit Go.Lib

def wordsB (x : En) : ByteArray := asBytes (itoa x.day) ++ ⟨#[32]⟩ ++ x.what ++ ⟨#[32]⟩ ++ asBytes (itoa x.val)
theorem wordsB_size (x : En) : (wordsB x).size = (itoa x.day).length + 1 + x.what.size + 1 + (itoa x.val).length := by
  simp only [wordsB, ByteArray.size_append, asBytes_size]
  rfl
def stampS (s : Int) (l : List UInt8) : Int := l.foldl (fun s c => (37 * s + (c.toNat : Int)) % 65519) s
theorem stampS_bd : ∀ (l : List UInt8) (s : Int), 0 ≤ s ∧ s ≤ 65518 → 0 ≤ stampS s l ∧ stampS s l ≤ 65518
  | [], s, h => h
  | c :: r, s, h => stampS_bd r _ (show 0 ≤ (37 * s + (c.toNat : Int)) % 65519 ∧ (37 * s + (c.toNat : Int)) % 65519 ≤ 65518 by omega)
theorem stampS_snoc (s : Int) (l : List UInt8) (c : UInt8) : stampS s (l ++ [c]) = (37 * stampS s l + (c.toNat : Int)) % 65519 := by simp [stampS]
def stampW (b : Int) (s : ByteArray) : Int := stampS ((b + 29) % 65519) s.data.toList
theorem stampW_bd (b : Int) (s : ByteArray) : 0 ≤ stampW b s ∧ stampW b s ≤ 65518 := stampS_bd _ _ (by omega)
theorem ttake_snoc (s : ByteArray) (k : Nat) (h : k < s.size) : s.data.toList.take (k + 1) = s.data.toList.take k ++ [s[k]] := by
  rw [List.take_succ_eq_append_getElem (by simpa using h)]; rfl

set_option maxHeartbeats 4000000 in
set_option maxRecDepth 100000 in
theorem entryWords_any (x : En) (w : World) (hx : x.good) (hsm : x.small) (ht : TabP w) :
    Calls Tryz.prog 264 #[.agg #[.int .i64 x.day, .string x.what, .int .i64 x.val]] w fun e w' => e = .returned (.string (wordsB x)) ∧ Below w.heap.size w w' := by
  have HT := Lib.hid ht
  have hwz := hsm
  unfold En.small at hwz
  clear ht
  have hs1 : (asBytes (itoa x.day)).size ≤ 20 := by rw [asBytes_size]; exact itoa_len hx.1.1 hx.1.2
  have hs2 : (asBytes (itoa x.val)).size ≤ 20 := by rw [asBytes_size]; exact itoa_len hx.2.2.1 hx.2.2.2
  have n1 : ¬ (9223372036854775807 < (asBytes (itoa x.day)).size + 1) := by omega
  have n2 : ¬ (9223372036854775807 < (asBytes (itoa x.day)).size + 1 + x.what.size) := by omega
  have n3 : ¬ (9223372036854775807 < (asBytes (itoa x.day)).size + 1 + x.what.size + 1) := by omega
  have n4 : ¬ (9223372036854775807 < (asBytes (itoa x.day)).size + 1 + x.what.size + 1 + (asBytes (itoa x.val)).size) := by omega
  go_enter Tryz.func264, Tryz.ntmps264
  go_wp2_with fail
  obtain ⟨wq, hwq⟩ : ∃ y, w.alloc (.cells #[.int .i64 x.day, .string x.what, .int .i64 x.val] 253) = y := ⟨_, rfl⟩
  have bq : Below w.heap.size w wq := by rw [← hwq]; exact (Below.refl _ _).alloc (Nat.le_refl _) _
  have yq : Blk wq w.heap.size 253 #[.int .i64 x.day, .string x.what, .int .i64 x.val] := by rw [← hwq]; exact Blk.new _ _ _
  rw [hwq]
  clear hwq
  have HB := Lib.hid bq
  have HT1 := Lib.hid (tabUp HT.out bq)
  have q0 : wq.cell? ⟨w.heap.size, 0, none⟩ = some (.int .i64 x.day) := yq.cellAt 0 (by simp)
  have q1 : wq.cell? ⟨w.heap.size, 1, none⟩ = some (.string x.what) := yq.cellAt 1 (by simp)
  have q2 : wq.cell? ⟨w.heap.size, 2, none⟩ = some (.int .i64 x.val) := yq.cellAt 2 (by simp)
  clear bq yq
  go_wp2_with fail
  go_region_held3 (fun W => Below wq.heap.size wq W ∧ W.cell? ⟨w.heap.size, 0, none⟩ = some (.int .i64 x.day) ∧ W.cell? ⟨w.heap.size, 1, none⟩ = some (.string x.what) ∧ W.cell? ⟨w.heap.size, 2, none⟩ = some (.int .i64 x.val)) (first | exact ⟨(Below.refl _ _).drew, q0, q1, q2⟩ | (go_split_ands; exact ⟨bnext (by assumption) hb1 (Nat.le_refl _), cell_on hb1 (by assumption), cell_on hb1 (by assumption), cell_on hb1 (by assumption)⟩) | fail "keep") (first | (go_at_call 84; go_split_ands; refine (decimal_any _ _ (by first | exact hx.1.1 | exact hx.2.2.1) (by first | exact hx.1.2 | exact hx.2.2.2) (tabUp HT1.out (by assumption))).mono ?_; rintro e w2 ⟨rfl, hb1⟩) | fail "arm")
  rename_i hS
  have HF := Lib.hid (bnext HB.out hS.1 (Nat.le_refl _))
  go_wp2
  go_ret
  exact ⟨rfl, HF.out⟩

set_option maxHeartbeats 4000000 in
set_option maxRecDepth 100000 in
theorem l27Words_any (x : En) (b : Nat) (w : World) (hx : x.good) (hsm : x.small) (q0 : w.cell? ⟨b, 0, none⟩ = some (.int .i64 x.day)) (q1 : w.cell? ⟨b, 1, none⟩ = some (.string x.what)) (q2 : w.cell? ⟨b, 2, none⟩ = some (.int .i64 x.val)) :
    Calls Tryz.prog 260 #[.pointer (some ⟨b, 0, none⟩)] w fun e w' => e = .returned (.string (wordsB x)) ∧ Below w.heap.size w w' := by
  have hwz := hsm
  unfold En.small at hwz
  have hs1 : (asBytes (itoa x.day)).size ≤ 20 := by rw [asBytes_size]; exact itoa_len hx.1.1 hx.1.2
  have hs2 : (asBytes (itoa x.val)).size ≤ 20 := by rw [asBytes_size]; exact itoa_len hx.2.2.1 hx.2.2.2
  have n1 : ¬ (9223372036854775807 < (asBytes (itoa x.day)).size + 1) := by omega
  have n2 : ¬ (9223372036854775807 < (asBytes (itoa x.day)).size + 1 + x.what.size) := by omega
  have n3 : ¬ (9223372036854775807 < (asBytes (itoa x.day)).size + 1 + x.what.size + 1) := by omega
  have n4 : ¬ (9223372036854775807 < (asBytes (itoa x.day)).size + 1 + x.what.size + 1 + (asBytes (itoa x.val)).size) := by omega
  go_enter Tryz.func260, Tryz.ntmps260
  go_wp2_with fail
  go_region_held3 (fun W => Below w.heap.size w W ∧ W.cell? ⟨b, 0, none⟩ = some (.int .i64 x.day) ∧ W.cell? ⟨b, 1, none⟩ = some (.string x.what) ∧ W.cell? ⟨b, 2, none⟩ = some (.int .i64 x.val)) (first | exact ⟨(Below.refl _ _).drew, q0, q1, q2⟩ | (go_split_ands; exact ⟨bnext (by assumption) hb1 (Nat.le_refl _), cell_on hb1 (by assumption), cell_on hb1 (by assumption), cell_on hb1 (by assumption)⟩) | fail "keep") (first | (go_at_call 85; refine (l01Dec_any _ _ (by first | exact hx.1.1 | exact hx.2.2.1) (by first | exact hx.1.2 | exact hx.2.2.2)).mono ?_; rintro e w2 ⟨rfl, hb1⟩) | fail "arm")
  rename_i hS
  have HF := Lib.hid hS.1
  go_wp2
  go_ret
  exact ⟨rfl, HF.out⟩

set_option maxHeartbeats 2000000 in
set_option maxRecDepth 100000 in
theorem l27Stamp_any (b : Int) (s : ByteArray) (w : World) (hb0 : 0 ≤ b) (hb1 : b ≤ 65518) (hs : s.size ≤ 9223372036854775807) :
    Calls Tryz.prog 259 #[.int .i64 b, .string s] w fun e w' => e = .returned (.int .i64 (stampW b s)) ∧ w = w' := by
  go_enter Tryz.func259, Tryz.ntmps259
  go_wp2
  go_loop [5, 6] (fun t i => ∃ k : Nat, k ≤ s.size ∧ i = .int .i64 k ∧ t = .int .i64 (stampS ((b + 29) % 65519) (s.data.toList.take k))) (fun t i => s.size - (RowKit.intOf i).toNat)
  case atStart => exact ⟨0, Nat.zero_le _, rfl, rfl⟩
  case round =>
    obtain ⟨k, hk, rfl, rfl⟩ := hrel
    have hbd := stampS_bd (s.data.toList.take k) ((b + 29) % 65519) (by omega)
    by_cases hlt : k < s.size
    · have hst := Lib.hid (show stampS ((b + 29) % 65519) (s.data.toList.take (k + 1)) = (37 * stampS ((b + 29) % 65519) (s.data.toList.take k) + (s[k].toNat : Int)) % 65519 by rw [ttake_snoc s k hlt, stampS_snoc])
      obtain ⟨v, hv⟩ : ∃ v, stampS ((b + 29) % 65519) (s.data.toList.take k) = v := ⟨_, rfl⟩
      rw [hv] at hbd hst ⊢
      clear hv
      have hc : (s[k].toNat : Int) ≤ 255 := by have := s[k].toNat_lt; omega
      obtain ⟨h0, h1⟩ := hbd
      go_wp2
      go_round
      case rel => exact ⟨k + 1, by omega, by go_num, by rw [hst.out]⟩
      case measure => simp [RowKit.intOf]; omega
    · obtain rfl : k = s.size := by omega
      have HO := Lib.hid (show stampS ((b + 29) % 65519) (s.data.toList.take s.size) = stampW b s by rw [List.take_of_length_le (by rw [Array.length_toList]; exact Nat.le_refl _)]; rfl)
      go_wp2
      go_ret
      exact ⟨ret_int HO.out, rfl⟩

set_option maxHeartbeats 4000000 in
set_option maxRecDepth 100000 in
theorem stampOf_any (b : Int) (x : En) (w : World) (hx : x.good) (hsm : x.small) (hb0 : 0 ≤ b) (hb1 : b ≤ 65518) (ht : TabP w) :
    Calls Tryz.prog 238 #[.int .i64 b, .agg #[.int .i64 x.day, .string x.what, .int .i64 x.val]] w fun e w' => e = .returned (.int .i64 (stampW b (wordsB x))) ∧ Below w.heap.size w w' := by
  have HT := Lib.hid ht
  have hsz : (wordsB x).size ≤ 1048700 := by
    have h1 := itoa_len hx.1.1 hx.1.2
    have h2 := itoa_len hx.2.2.1 hx.2.2.2
    unfold En.small at hsm
    rw [wordsB_size]
    omega
  clear ht
  go_enter Tryz.func238, Tryz.ntmps238
  go_wp2_with fail
  obtain ⟨wq, hwq⟩ : ∃ y, w.alloc (.cells #[.int .i64 x.day, .string x.what, .int .i64 x.val] 253) = y := ⟨_, rfl⟩
  have bq : Below w.heap.size w wq := by rw [← hwq]; exact (Below.refl _ _).alloc (Nat.le_refl _) _
  have yq : Blk wq w.heap.size 253 #[.int .i64 x.day, .string x.what, .int .i64 x.val] := by rw [← hwq]; exact Blk.new _ _ _
  rw [hwq]
  clear hwq
  have HB := Lib.hid bq
  have HT1 := Lib.hid (tabUp HT.out bq)
  have q0 : wq.cell? ⟨w.heap.size, 0, none⟩ = some (.int .i64 x.day) := yq.cellAt 0 (by simp)
  have q1 : wq.cell? ⟨w.heap.size, 1, none⟩ = some (.string x.what) := yq.cellAt 1 (by simp)
  have q2 : wq.cell? ⟨w.heap.size, 2, none⟩ = some (.int .i64 x.val) := yq.cellAt 2 (by simp)
  clear bq yq
  go_wp2_with fail
  refine (entryWords_any x _ hx hsm HT1.out).mono ?_
  rintro e w1 ⟨rfl, b1⟩
  have HF := Lib.hid (bnext HB.out b1 (Nat.le_refl _))
  clear b1 q0 q1 q2
  obtain ⟨s, hs⟩ : ∃ s, wordsB x = s := ⟨_, rfl⟩
  rw [hs] at hsz ⊢
  have HW := Lib.hid hs
  clear hs
  go_wp2
  go_loop [5, 7, 15] (fun t _ i => ∃ k : Nat, k ≤ s.size ∧ i = .int .i64 k ∧ t = .int .i64 (stampS ((b + 29) % 65519) (s.data.toList.take k))) (fun _ _ i => s.size - (RowKit.intOf i).toNat)
  case atStart => exact ⟨0, Nat.zero_le _, rfl, rfl⟩
  case round =>
    obtain ⟨k, hk, rfl, rfl⟩ := hrel
    have hbd := stampS_bd (s.data.toList.take k) ((b + 29) % 65519) (by omega)
    by_cases hlt : k < s.size
    · have hst := Lib.hid (show stampS ((b + 29) % 65519) (s.data.toList.take (k + 1)) = (37 * stampS ((b + 29) % 65519) (s.data.toList.take k) + (s[k].toNat : Int)) % 65519 by rw [ttake_snoc s k hlt, stampS_snoc])
      obtain ⟨v, hv⟩ : ∃ v, stampS ((b + 29) % 65519) (s.data.toList.take k) = v := ⟨_, rfl⟩
      rw [hv] at hbd hst ⊢
      clear hv
      have hc : (s[k].toNat : Int) ≤ 255 := by have := s[k].toNat_lt; omega
      obtain ⟨h0, h1⟩ := hbd
      go_wp2
      go_round
      case rel => exact ⟨k + 1, by omega, by go_num, by rw [hst.out]⟩
      case measure => simp [RowKit.intOf]; omega
    · obtain rfl : k = s.size := by omega
      have HO := Lib.hid (show stampS ((b + 29) % 65519) (s.data.toList.take s.size) = stampW b s by rw [List.take_of_length_le (by rw [Array.length_toList]; exact Nat.le_refl _)]; rfl)
      go_wp2
      go_ret
      exact ⟨by rw [HW.out]; exact ret_int HO.out, HF.out⟩

def stampF (b : Int) (x : En) : Int × Int := if okEn x = true then (if inR b 0 65518 = true then (stampW b (wordsB x), 0) else (0, 2)) else (0, 1)
theorem stampF_bad {b : Int} {x : En} (h : okEn x = false) : stampF b x = (0, 1) := by simp [stampF, h]
theorem stampF_range {b : Int} {x : En} (h : okEn x = true) (h2 : inR b 0 65518 = false) : stampF b x = (0, 2) := by simp [stampF, h, h2]
theorem stampF_ok {b : Int} {x : En} (h : okEn x = true) (h2 : inR b 0 65518 = true) : stampF b x = (stampW b (wordsB x), 0) := by simp [stampF, h, h2]

end Go.Proofs.YtjmlcobbjpmjpaaGreatDoor
namespace Go.Proofs.YtjmlcobbjpmjpaaGreatDoor
open Go.RowKit

theorem str_at {w : World} {B n k : Nat} {A : Option Addr} {l : List ByteArray} (h : Reads w B 1 A n (strs l)) (hk : k < n) :
    ∃ (x : ByteArray) (b off : Nat), l[k]? = some x ∧ A = some ⟨b, off, none⟩ ∧ b < B ∧ w.cell? ⟨b, off + k, none⟩ = some (.string x) := by
  obtain ⟨b, off, rfl, hb, hcell⟩ := h.at_ (by omega)
  have hl := h.1
  rw [strs_length] at hl
  have he : l[k]? = some l[k] := List.getElem?_eq_getElem (by omega)
  exact ⟨_, b, off, he, rfl, hb, hcell _ _ (strs_get he)⟩
theorem strs_len {w : World} {B n : Nat} {A : Option Addr} {l : List ByteArray} (h : Reads w B 1 A n (strs l)) : l.length = n := by
  have := h.1
  rw [strs_length] at this
  omega
def tmarks (n : Nat) : List ByteArray := (List.range n).map fun (j : Nat) => mkText (1 + j)
theorem tmarks_length (n : Nat) : (tmarks n).length = n := by simp [tmarks]
theorem tmarks_get {n i : Nat} (h : i < n) : (tmarks n)[i]? = some (mkText (1 + i)) := by simp [tmarks, h]

end Go.Proofs.YtjmlcobbjpmjpaaGreatDoor
