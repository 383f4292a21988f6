/- Words for memory that the walks share: a slice that reads as a list, a block known whole. No program in sight. A stable sort by merging in place, told by place: what the turns and the merges do. No function of the program in sight. What a slice that came in is: a list of elements, read at its cells. The text of a mark. Client values: their cells, lists of them, the law's copies, sizes, comparisons and marks. Names: the reference's test and the program's. Ranges: the two range tests and the tests of days that are made of them. Clients: the tests of one client and of a list of clients. Clients: the tests of a list of clients. Clients: who is active on a day, and the quota of a station. Clients: a client found by name. Booking values: their cells, lists of them, the law's copies, sizes, comparisons and marks. The names of clients, in ascending order, each once: the plain law. -/
import Derived.WalkKit
import Derived.WalkSpells
import Derived.Deep.Draws
import Derived.Lib.Hide
import Derived.Deep.Slices
import Derived.Deep.Fields
import Derived.ChangeSame
import Derived.OpenShut
import Derived.Test.YtjmlcobbjpmjpaaGreatDoorProg
import Derived.WalkLawsBesides
import Derived.Deep.RegionHeld3
import Derived.BigQuiet
import Derived.Deep.QuietTactic
import Derived.Laws.Cover1
import Derived.IntWalk
import Derived.Deep.RegionWith
import Derived.Lib.SlicesCompact
import Derived.Sort.OwnSorted
set_option linter.unusedVariables false
set_option linter.unusedSimpArgs false
namespace Go.Proofs.YtjmlcobbjpmjpaaGreatDoor
open Go.RowKit

/-- The slice value '.slice A n c' (A: an address or none) holds the cells xs ('size' cells an element), in a block below B. -/
def Reads (w : World) (B size : Nat) (A : Option Addr) (n : Nat) (xs : List Value) : Prop :=
  xs.length = n * size ∧ (0 < n → ∃ ad, A = some ad ∧ ad.spot = none ∧ ad.block < B ∧ ∀ j u, xs[j]? = some u → w.cell? ⟨ad.block, ad.off + j, none⟩ = some u)

/-- Block g is just the cells cs of element type t, none frozen. -/
def Blk (w : World) (g : Nat) (t : TypeId) (cs : Array Value) : Prop := w.heap[g]? = some (.cells cs t (0, 0))

section
variable {w w' : World} {B B' size n : Nat} {A : Option Addr} {xs : List Value}
theorem Reads.none_ : Reads w B size A 0 [] := ⟨by simp, fun h => absurd h (by omega)⟩
theorem Reads.at_ (h : Reads w B size A n xs) (hn : 0 < n) : ∃ b off, A = some ⟨b, off, none⟩ ∧ b < B ∧ ∀ j u, xs[j]? = some u → w.cell? ⟨b, off + j, none⟩ = some u := by
  obtain ⟨⟨b, off, spot⟩, e, hs, hb, hc⟩ := h.2 hn
  simp only at hs
  subst hs
  exact ⟨b, off, e, hb, hc⟩
theorem Reads.keep (h : Reads w B size A n xs) (hk : ∀ p : Addr, p.block < B → w'.cell? p = w.cell? p) : Reads w' B size A n xs :=
  ⟨h.1, fun hn => by
    obtain ⟨ad, e, hs, hb, hc⟩ := h.2 hn
    exact ⟨ad, e, hs, hb, fun j u hu => (hk ⟨ad.block, ad.off + j, none⟩ hb).trans (hc j u hu)⟩⟩
theorem Reads.more (h : Reads w B size A n xs) (hB : B ≤ B') : Reads w B' size A n xs :=
  ⟨h.1, fun hn => by
    obtain ⟨ad, e, hs, hb, hc⟩ := h.2 hn
    exact ⟨ad, e, hs, by omega, hc⟩⟩
theorem Reads.below (h : Reads w B size A n xs) (hb : Below B w w') : Reads w' B size A n xs := h.keep fun _ hp => hb.cell hp
/-- A part of a slice. -/
theorem Reads.sub {b off i m : Nat} (h : Reads w B 1 (some ⟨b, off, none⟩) n xs) (hm : i + m ≤ n) : Reads w B 1 (some ⟨b, off + i, none⟩) m ((xs.drop i).take m) := by
  refine ⟨?_, fun h0 => ?_⟩
  · have := h.1
    rw [List.length_take, List.length_drop]
    omega
  · obtain ⟨ad, e, hs, hb, hc⟩ := h.2 (by omega)
    injection e with e
    subst e
    refine ⟨_, rfl, rfl, hb, fun j u hu => ?_⟩
    rw [List.getElem?_take] at hu
    split at hu
    · rw [List.getElem?_drop] at hu
      have := hc (i + j) u hu
      simpa [Nat.add_assoc] using this
    · cases hu
/-- What was below the heap's size when a call began reads on behind it. -/
theorem Reads.on (h : Reads w B size A n xs) (hB : B ≤ w.heap.size) (hb : Below w.heap.size w w') : Reads w' B size A n xs := h.below (hb.mono hB)
end

section
variable {w w' : World} {g : Nat} {t : TypeId} {cs : Array Value}
theorem Blk.lt (h : Blk w g t cs) : g < w.heap.size := by
  rcases Nat.lt_or_ge g w.heap.size with hlt | hge
  · exact hlt
  · unfold Blk at h; rw [Array.getElem?_eq_none hge] at h; cases h
theorem Blk.cell (h : Blk w g t cs) (i : Nat) : w.cell? ⟨g, i, none⟩ = cs[i]? := cell_of_row w g i cs t (0, 0) h
theorem Blk.cellAt (h : Blk w g t cs) (i : Nat) (hi : i < cs.size) : w.cell? ⟨g, i, none⟩ = some cs[i] := by rw [h.cell, Array.getElem?_eq_getElem hi]
theorem Blk.frozen (h : Blk w g t cs) (i : Nat) : w.frozen? ⟨g, i, none⟩ = false := by
  unfold Blk at h
  simp [World.frozen?, h]
theorem Blk.new (w : World) (t : TypeId) (cs : Array Value) : Blk (w.alloc (.cells cs t)) w.heap.size t cs := heap_alloc_new w _
theorem Blk.drew (h : Blk w g t cs) : Blk w.drew g t cs := h
theorem Blk.drewN (h : Blk w g t cs) (n : Nat) : Blk (w.drewN n) g t cs := h
theorem Blk.alloc (h : Blk w g t cs) (o : Obj) : Blk (w.alloc o) g t cs := (Below.heap_alloc w o g h.lt).trans h
theorem Blk.set_ (h : Blk w g t cs) (i : Nat) (u : Value) : Blk (w.setCell ⟨g, i, none⟩ u) g t (cs.setIfInBounds i u) := by
  unfold Blk at h ⊢
  simp [World.setCell, Array.getElem?_modify, h]
theorem Blk.far (h : Blk w g t cs) {p : Addr} (hp : g ≠ p.block) (u : Value) : Blk (w.setCell p u) g t cs := (Below.heap_setCell w p u g hp).trans h
theorem Blk.below {B : Nat} (h : Blk w g t cs) (hb : Below B w w') (hg : g < B) : Blk w' g t cs := (hb.block g hg).trans h
/-- A block stands behind a call that turned nothing that was there. -/
theorem Blk.on (h : Blk w g t cs) (hb : Below w.heap.size w w') : Blk w' g t cs := h.below hb h.lt
theorem Blk.grown {row : Option Nat} (h : Blk w g t cs) (hb : w.grownBy w' row) (hg : some g ≠ row) : Blk w' g t cs := (hb.block g h.lt hg).trans h
theorem Blk.reads (h : Blk w g t cs) {B size n : Nat} (hg : g < B) (hn : cs.size = n * size) : Reads w B size (some ⟨g, 0, none⟩) n cs.toList :=
  ⟨by simpa using hn, fun _ => ⟨_, rfl, rfl, hg, fun j u hu => by
    simp only [Nat.zero_add]
    rw [h.cell j]
    simpa using hu⟩⟩
/-- The block as a slice that reads as the list xs, below the heap's size. -/
theorem Blk.readsL {xs : List Value} (h : Blk w g t xs.toArray) {size n : Nat} (hn : xs.length = n * size) : Reads w w.heap.size size (some ⟨g, 0, none⟩) n xs :=
  h.reads h.lt (by simpa using hn)
end

/-- Of what was there only the blocks from lo on and below hi may have turned. -/
structure Only (lo hi : Nat) (w w' : World) : Prop where
  os : w'.os = w.os
  tape : w'.tape = w.tape
  output : w'.output = w.output
  size : w.heap.size ≤ w'.heap.size
  block : ∀ k, k < w.heap.size → (k < lo ∨ hi ≤ k) → w'.heap[k]? = w.heap[k]?
section
variable {lo hi lo' hi' B : Nat} {a b w w' : World}
theorem Only.refl (lo hi : Nat) (w : World) : Only lo hi w w := ⟨rfl, rfl, rfl, Nat.le_refl _, fun _ _ _ => rfl⟩
theorem Only.of_below (h : Below w.heap.size w w') (lo hi : Nat) : Only lo hi w w' := ⟨h.os, h.tape, h.output, h.size, fun k hk _ => h.block k hk⟩
theorem Only.trans (h : Only lo hi a b) (k : Only lo hi b w) : Only lo hi a w :=
  ⟨k.os.trans h.os, k.tape.trans h.tape, k.output.trans h.output, Nat.le_trans h.size k.size, fun i hi hne => (k.block i (Nat.lt_of_lt_of_le hi h.size) hne).trans (h.block i hi hne)⟩
theorem Only.wide (h : Only lo hi w w') (h1 : lo' ≤ lo) (h2 : hi ≤ hi') : Only lo' hi' w w' := ⟨h.os, h.tape, h.output, h.size, fun k hk hd => h.block k hk (by omega)⟩
theorem Only.setCell (h : Only lo hi a w) {p : Addr} (h1 : lo ≤ p.block) (h2 : p.block < hi) (u : Value) : Only lo hi a (w.setCell p u) :=
  ⟨h.os, h.tape, h.output, by simpa [World.setCell] using h.size, fun i hi' hd => (Below.heap_setCell w p u i (by omega)).trans (h.block i hi' hd)⟩
theorem Only.alloc (h : Only lo hi a w) (o : Obj) : Only lo hi a (w.alloc o) :=
  ⟨h.os, h.tape, h.output, Nat.le_trans h.size (by simp), fun i hi' hd => (Below.heap_alloc w o i (Nat.lt_of_lt_of_le hi' h.size)).trans (h.block i hi' hd)⟩
theorem Only.drewN (h : Only lo hi a w) (n : Nat) : Only lo hi a (w.drewN n) := ⟨h.os, h.tape, h.output, h.size, h.block⟩
theorem Only.below (h : Only lo hi w w') (hlo : B ≤ lo) (hB : B ≤ w.heap.size) : Below B w w' := ⟨h.os, h.tape, h.output, h.size, fun k hk => h.block k (by omega) (by omega)⟩
theorem below_drewN (h : Below B a w) (n : Nat) : Below B a (w.drewN n) := ⟨h.os, h.tape, h.output, h.size, h.block⟩
/-- What a cell holds it holds behind a call that turned nothing that was there. -/
theorem cell_on {p : Addr} {v : Value} (hb : Below w.heap.size w w') (h : w.cell? p = some v) : w'.cell? p = some v := (hb.cell (World.block_lt_of_cell? w _ h)).trans h
/-- One call behind another: what the second leaves alone is all that the first left. -/
theorem bnext (h : Below B a w) (k : Below w.heap.size w w') (hB : B ≤ a.heap.size) : Below B a w' := h.trans (k.mono (Nat.le_trans hB h.size))
theorem bonly (h : Below B a w) (k : Only lo hi w w') (hlo : B ≤ lo) (hB : B ≤ a.heap.size) : Below B a w' := h.trans (k.below hlo (Nat.le_trans hB h.size))
end

/-- A slice value '.slice A n c' of the call's own: nil, or the head of a row in a block from lo on and below hi; its first cells are xs. -/
def Sl (w : World) (lo hi : Nat) (t : TypeId) (size : Nat) (A : Option Addr) (n c : Nat) (xs : List Value) : Prop :=
  w.ownsRow lo t size (.slice A n c) n xs ∧ ∀ b, A = some b → b.block < hi
section
variable {w w' : World} {lo hi lo' hi' size n c : Nat} {t : TypeId} {A : Option Addr} {xs : List Value}
theorem Sl.nil (w : World) (lo hi : Nat) (t : TypeId) (size : Nat) : Sl w lo hi t size none 0 0 [] := ⟨World.ownsRow_nil _ _ _ _, fun b h => by cases h⟩
theorem Sl.len (h : Sl w lo hi t size A n c xs) : xs.length = n * size := h.1.1
/-- What there is of a slice that is not nil. -/
theorem Sl.form (h : Sl w lo hi t size A n c xs) : (A = none ∧ n = 0 ∧ c = 0) ∨ ∃ g cur, A = some ⟨g, 0, none⟩ ∧ lo ≤ g ∧ g < hi ∧ Blk w g t cur ∧ n ≤ c ∧ cur.size = c * size ∧ cur.toList.take (n * size) = xs := by
  rcases h.1.2 with ⟨h', hn⟩ | ⟨g, cap, cur, h', hb, hg, hnc, _, hcs, ht⟩
  · injection h' with h1 h2 h3; exact .inl ⟨h1, hn, h3⟩
  · injection h' with h1 h2 h3; subst h3; exact .inr ⟨g, cur, h1, hb, h.2 _ h1, hg, hnc, hcs, ht⟩
theorem Sl.reads (h : Sl w lo hi t size A n c xs) {B : Nat} (hB : hi ≤ B) : Reads w B size A n xs := by
  refine ⟨h.len, fun hn => ?_⟩
  rcases h.form with ⟨_, h0, _⟩ | ⟨g, cur, rfl, _, hg, hblk, _, _, ht⟩
  · omega
  · refine ⟨_, rfl, rfl, by simp; omega, fun j u hu => ?_⟩
    simp only [Nat.zero_add]
    rw [hblk.cell, ← Array.getElem?_toList]
    rw [← ht, List.getElem?_take] at hu
    split at hu
    · exact hu
    · cases hu
theorem Sl.keep (h : Sl w lo hi t size A n c xs) (hk : ∀ b, lo ≤ b → b < hi → b < w.heap.size → w'.heap[b]? = w.heap[b]?) : Sl w' lo hi t size A n c xs := by
  refine ⟨⟨h.1.1, ?_⟩, h.2⟩
  rcases h.1.2 with hn | ⟨g, cap, cur, h', hb, hg, rest⟩
  · exact .inl hn
  · refine .inr ⟨g, cap, cur, h', hb, ?_, rest⟩
    injection h' with h1
    rw [hk g hb (h.2 _ h1) (Array.getElem?_eq_some_iff.1 hg).1]
    exact hg
theorem Sl.on (h : Sl w lo hi t size A n c xs) (hb : Below w.heap.size w w') : Sl w' lo hi t size A n c xs := h.keep fun b _ _ hb' => hb.block b hb'
theorem Sl.apart (h : Sl w lo hi t size A n c xs) (ho : Only lo' hi' w w') (hd : hi ≤ lo' ∨ hi' ≤ lo) : Sl w' lo hi t size A n c xs := h.keep fun b h1 h2 h3 => ho.block b h3 (by omega)
theorem Sl.wide (h : Sl w lo hi t size A n c xs) (h1 : lo' ≤ lo) (h2 : hi ≤ hi') : Sl w lo' hi' t size A n c xs := by
  refine ⟨⟨h.1.1, ?_⟩, fun b hb => Nat.lt_of_lt_of_le (h.2 b hb) h2⟩
  rcases h.1.2 with hn | ⟨g, cap, cur, h', hb, rest⟩
  · exact .inl hn
  · exact .inr ⟨g, cap, cur, h', Nat.le_trans h1 hb, rest⟩
theorem Sl.of_blk {g : Nat} (h : Blk w g t xs.toArray) (h1 : lo ≤ g) (h2 : g < hi) (hn : xs.length = n * size) (hm : n ≤ maxLen) : Sl w lo hi t size (some ⟨g, 0, none⟩) n n xs :=
  ⟨⟨hn, .inr ⟨g, n, xs.toArray, rfl, h1, h, Nat.le_refl _, hm, by simpa using hn, by simp [← hn]⟩⟩, fun b hb => by injection hb with hb; subst hb; exact h2⟩
theorem Sl.set_ {g : Nat} (h : Sl w lo hi t size (some ⟨g, 0, none⟩) n c xs) (j : Nat) (u : Value) : Sl (w.setCell ⟨g, j, none⟩ u) lo hi t size (some ⟨g, 0, none⟩) n c (xs.set j u) := by
  obtain ⟨⟨h1, h2⟩, h3⟩ := h
  rcases h2 with ⟨h', _⟩ | ⟨g', cap, cur, h', hb, hg, hnc, hm, hcs, ht⟩
  · cases h'
  · injection h' with e1 e2 e3
    injection e1 with e1
    injection e1 with e1
    subst e1 e3
    refine ⟨⟨by simpa using h1, .inr ⟨g, c, cur.setIfInBounds j u, rfl, hb, heap_setCell_same w g j cur t u hg, hnc, hm, by simpa using hcs, ?_⟩⟩, h3⟩
    rw [Array.toList_setIfInBounds, ← ht, List.take_set]
theorem Sl.cellAt {g : Nat} (h : Sl w lo hi t size (some ⟨g, 0, none⟩) n c xs) (j : Nat) (hj : j < n * size) : w.cell? ⟨g, j, none⟩ = xs[j]? := h.1.cellAt j hj
theorem Sl.frozenAt {g : Nat} (h : Sl w lo hi t size (some ⟨g, 0, none⟩) n c xs) (j : Nat) : w.frozen? ⟨g, j, none⟩ = false := h.1.frozenAt j
theorem Sl.lt (h : Sl w lo hi t size A n c xs) (hn : 0 < n) : ∃ g, A = some ⟨g, 0, none⟩ ∧ lo ≤ g ∧ g < hi ∧ g < w.heap.size := by
  rcases h.form with ⟨_, h0, _⟩ | ⟨g, cur, rfl, h1, h2, hb, _⟩
  · omega
  · exact ⟨g, rfl, h1, h2, hb.lt⟩
end

/-- The first m cells are those of xs. -/
def Fill (cs : Array Value) (xs : List Value) (m : Nat) : Prop := ∀ j, j < m → cs[j]? = xs[j]?
theorem Fill.zero (cs : Array Value) (xs : List Value) : Fill cs xs 0 := fun j hj => by omega
theorem Fill.step {cs : Array Value} {xs : List Value} {m : Nat} {v : Value} (h : Fill cs xs m) (hx : xs[m]? = some v) (hm : m < cs.size) : Fill (cs.setIfInBounds m v) xs (m + 1) := by
  intro j hj
  rw [Array.getElem?_setIfInBounds]
  by_cases e : m = j
  · subst e; rw [if_pos rfl, if_pos hm, hx]
  · rw [if_neg e]; exact h j (by omega)
theorem Fill.done {cs : Array Value} {xs : List Value} {m : Nat} (h : Fill cs xs m) (h1 : cs.size = m) (h2 : xs.length = m) : cs = xs.toArray := by
  apply Array.ext_getElem?
  intro i
  by_cases hi : i < m
  · rw [h i hi]; simp
  · rw [Array.getElem?_eq_none (by omega)]; simp; omega

/-- The same of two lists. -/
def FillL (ys xs : List Value) (m : Nat) : Prop := ∀ j, j < m → ys[j]? = xs[j]?
theorem FillL.zero (ys xs : List Value) : FillL ys xs 0 := fun j hj => by omega
theorem FillL.step {ys xs : List Value} {m : Nat} {v : Value} (h : FillL ys xs m) (hx : xs[m]? = some v) (hm : m < ys.length) : FillL (ys.set m v) xs (m + 1) := by
  intro j hj
  rw [List.getElem?_set]
  by_cases e : m = j
  · subst e; rw [if_pos rfl, if_pos hm, hx]
  · rw [if_neg e]; exact h j (by omega)
theorem FillL.done {ys xs : List Value} {m : Nat} (h : FillL ys xs m) (h1 : ys.length = m) (h2 : xs.length = m) : ys = xs := by
  apply List.ext_getElem?
  intro i
  by_cases hi : i < m
  · exact h i hi
  · rw [List.getElem?_eq_none (by omega), List.getElem?_eq_none (by omega)]
theorem list_at {ys : List Value} {j : Nat} (h : j < ys.length) : ∃ v, ys[j]? = some v := ⟨_, List.getElem?_eq_getElem h⟩
/-- Lists of elements of m cells each. -/
theorem flat_length {α : Type} (cell : α → List Value) (m : Nat) (hm : ∀ e, (cell e).length = m) : ∀ l : List α, (l.flatMap cell).length = l.length * m
  | [] => by simp
  | a :: l => by
    have := flat_length cell m hm l
    rw [List.flatMap_cons, List.length_append, hm, this, List.length_cons, Nat.succ_mul]
    omega
theorem flat_get {α : Type} (cell : α → List Value) (m : Nat) (hm : ∀ e, (cell e).length = m) : ∀ (l : List α) (i : Nat) (e : α), l[i]? = some e → ∀ j, j < m → (l.flatMap cell)[i * m + j]? = (cell e)[j]?
  | [], i, e, h, j, hj => by simp at h
  | a :: l, 0, e, h, j, hj => by
    simp at h; subst h
    rw [List.flatMap_cons, List.getElem?_append_left (by rw [hm]; omega)]
    simp
  | a :: l, i + 1, e, h, j, hj => by
    have := flat_get cell m hm l i e (by simpa using h) j hj
    rw [List.flatMap_cons, List.getElem?_append_right (by rw [hm, Nat.succ_mul]; omega), hm, ← this]
    congr 1
    rw [Nat.succ_mul]
    omega

def ints (l : List Int) : List Value := l.map (.int .i64)
theorem ints_length (l : List Int) : (ints l).length = l.length := by simp [ints]
theorem ints_get {l : List Int} {i : Nat} {x : Int} (h : l[i]? = some x) : (ints l)[i]? = some (.int .i64 x) := by simp [ints, h]
def strs (l : List ByteArray) : List Value := l.map .string
theorem strs_length (l : List ByteArray) : (strs l).length = l.length := by simp [strs]
theorem strs_get {l : List ByteArray} {i : Nat} {x : ByteArray} (h : l[i]? = some x) : (strs l)[i]? = some (.string x) := by simp [strs, h]

theorem ints_cell {w : World} {g m : Nat} {t : TypeId} {hs : List Int} {x : Int} (h : Blk w g t (ints hs).toArray) (hx : hs[m]? = some x) : w.cell? ⟨g, m, none⟩ = some (.int .i64 x) := by
  rw [h.cell]; simp [ints, hx]
theorem ints_set {w : World} {g : Nat} {t : TypeId} {hs : List Int} (h : Blk w g t (ints hs).toArray) (m : Nat) (y : Int) : Blk (w.setCell ⟨g, m, none⟩ (.int .i64 y)) g t (ints (hs.set m y)).toArray := by
  have := h.set_ m (.int .i64 y)
  rw [List.setIfInBounds_toArray] at this
  simpa [ints, List.map_set] using this
/-- Zeros; numbers that follow one another from 1 on. -/
def zer (n : Nat) : List Int := List.replicate n 0
theorem zer_length (n : Nat) : (zer n).length = n := by simp [zer]
theorem zer_get {n i : Nat} {x : Int} (h : (zer n)[i]? = some x) : x = 0 := by
  have := List.mem_of_getElem? h
  simp [zer] at this
  exact this.2
def marks (n : Nat) : List Int := (List.range n).map fun (j : Nat) => 1 + (j : Int)
theorem marks_length (n : Nat) : (marks n).length = n := by simp [marks]
theorem marks_get {n i : Nat} (h : i < n) : (marks n)[i]? = some (1 + (i : Int)) := by simp [marks, h]
theorem made_zer (n : Nat) : madeCells #[.int .i64 0] n = (ints (zer n)).toArray := by
  apply Array.ext'
  rw [toList_madeCells_one]
  simp [ints, zer]

theorem run_make_rowN {P : Program} (t e : TypeId) (i : TypeInfo) (z : Value) (ht : P.underlying t = some (.slice e)) (hi : P.info? e = some i) (hz : i.zero = some z)
    (kl kc : IntKind) (n c : Nat) (hnc : n ≤ c) (hbytes : i.bytes * c ≤ 281474976710656) (h63 : c ≤ 9223372036854775807) (w : World) :
    (Instr.makeSlice t (.int kl (n : Int)) (.int kc (c : Int))).run P w = .ok (.slice (some ⟨w.heap.size, 0, none⟩) n c) (w.alloc (.cells (madeCells z.cells (c * i.size)) e)) := by
  have hb : (i.bytes : Int) * (c : Int) ≤ 281474976710656 := by
    have h : ((i.bytes * c : Nat) : Int) ≤ 281474976710656 := by omega
    rwa [Int.natCast_mul] at h
  have hr := run_make (P := P) w t e i z ht hi hz kl kc n c (by omega) (by omega) hb (by omega)
  simp only [Int.toNat_natCast] at hr
  exact hr

/-- 'make([]T, n)' of a small n, at one program's types. -/
theorem run_make_small {P : Program} (t e : TypeId) (z : Value) (size bytes : Nat) (ht : P.underlying t = some (.slice e))
    (hinfo : (P.info? e).map (fun i => (i.zero, i.size, i.bytes)) = some (some z, size, bytes)) (hb : bytes ≤ 1000) (n : Nat) (hn : n ≤ 1048576) :
    ∀ w : World, (Instr.makeSlice t (.int .i64 (n : Int)) (.int .i64 (n : Int))).run P w = .ok (.slice (some ⟨w.heap.size, 0, none⟩) n n) (w.alloc (.cells (madeCells z.cells (n * size)) e)) := by
  obtain ⟨i, hi, hz, rfl, rfl⟩ := info_parts hinfo
  intro w
  refine run_make_rowN t e i z ht hi hz _ _ n n (Nat.le_refl _) ?_ (by omega) w
  calc i.bytes * n ≤ 1000 * 1048576 := Nat.mul_le_mul hb hn
    _ ≤ 281474976710656 := by decide

/-- A number in a range, as the program asks it; a plain definition, so that the walk leaves it alone. -/
def inR (n lo hi : Int) : Bool := decide (lo ≤ n) && decide (n ≤ hi)
theorem inR_true {n lo hi : Int} : inR n lo hi = true ↔ lo ≤ n ∧ n ≤ hi := by simp [inR]
theorem inR_false {n lo hi : Int} : inR n lo hi = false ↔ n < lo ∨ hi < n := by simp [inR]; omega

/-- The first k elements all meet p. -/
def AllTo {α : Type} (p : α → Bool) (l : List α) (k : Nat) : Prop := ∀ (j : Nat) (e : α), j < k → l[j]? = some e → p e = true
section
variable {α : Type} {p : α → Bool} {l : List α} {k : Nat} {e : α}
theorem AllTo.zero (p : α → Bool) (l : List α) : AllTo p l 0 := fun j _ hj _ => by omega
theorem AllTo.step (h : AllTo p l k) (he : l[k]? = some e) (hp : p e = true) : AllTo p l (k + 1) := fun j x hj hx => by
  by_cases hjk : j = k
  · subst hjk; rw [he] at hx; injection hx with hx; subst hx; exact hp
  · exact h j x (by omega) hx
theorem AllTo.done (h : AllTo p l k) (hk : l.length = k) : l.all p = true := by
  rw [List.all_eq_true]
  intro x hx
  obtain ⟨j, hj, rfl⟩ := List.mem_iff_getElem.1 hx
  exact h j _ (by omega) (List.getElem?_eq_getElem hj)
theorem all_bad (he : l[k]? = some e) (hp : p e = false) : l.all p = false := by
  rw [List.all_eq_false]
  exact ⟨e, List.mem_of_getElem? he, by simp [hp]⟩
theorem any_of (he : l[k]? = some e) (hp : p e = true) : l.any p = true := List.any_eq_true.2 ⟨e, List.mem_of_getElem? he, hp⟩
theorem any_none (h : AllTo (fun x => !p x) l k) (hk : l.length = k) : l.any p = false := by
  have := h.done hk
  rw [List.any_eq_false]
  intro x hx
  have := List.all_eq_true.1 this x hx
  simpa using this
end
theorem AllTo.imp {α : Type} {p q : α → Bool} {l : List α} {k : Nat} (h : AllTo p l k) (hi : ∀ x, p x = true → q x = true) : AllTo q l k := fun j e hj he => hi _ (h j e hj he)
/-- The place of the first element that meets p, as the program tells it. -/
def idxI {α : Type} (p : α → Bool) (l : List α) : Int := match l.findIdx? p with
  | some i => i
  | none => -1
theorem idxI_found {α : Type} {p : α → Bool} {l : List α} {k : Nat} {e : α} (he : l[k]? = some e) (hp : p e = true) (h : AllTo (fun x => !p x) l k) : idxI p l = k := by
  have : l.findIdx? p = some k := by
    rw [List.findIdx?_eq_some_iff_getElem]
    obtain ⟨hk, rfl⟩ := List.getElem?_eq_some_iff.1 he
    refine ⟨hk, hp, fun j hj => ?_⟩
    have := h j _ hj (List.getElem?_eq_getElem (by omega))
    simpa using this
  simp [idxI, this]
theorem idxI_none {α : Type} {p : α → Bool} {l : List α} {k : Nat} (h : AllTo (fun x => !p x) l k) (hk : l.length = k) : idxI p l = -1 := by
  have : l.findIdx? p = none := by
    rw [List.findIdx?_eq_none_iff]
    intro x hx
    have := List.all_eq_true.1 (h.done hk) x hx
    simpa using this
  simp [idxI, this]
theorem idxI_nonneg {α : Type} (p : α → Bool) (l : List α) : decide (0 ≤ idxI p l) = l.any p := by
  unfold idxI
  split
  · rename_i i h
    obtain ⟨hk, hp, _⟩ := List.findIdx?_eq_some_iff_getElem.1 h
    rw [List.any_eq_true.2 ⟨_, List.getElem_mem hk, hp⟩]
    simp
  · rename_i h
    rw [List.findIdx?_eq_none_iff] at h
    rw [List.any_eq_false.2 (fun x hx => by simp [h x hx])]
    simp
/-- A number that int64 holds. -/
def I64 (x : Int) : Prop := -9223372036854775808 ≤ x ∧ x ≤ 9223372036854775807
theorem ret_bool {a b : Bool} (h : a = b) : Ending.returned (.bool a) = .returned (.bool b) := by rw [h]
theorem ret_int {k : IntKind} {a b : Int} (h : a = b) : Ending.returned (.int k a) = .returned (.int k b) := by rw [h]
end Go.Proofs.YtjmlcobbjpmjpaaGreatDoor
namespace Go.Proofs.YtjmlcobbjpmjpaaGreatDoor.Stb

section
variable {α : Type}
/-- A row of n things, told by place. -/
def row (f : Nat → α) (n : Nat) : List α := (List.range n).map f
theorem row_length (f : Nat → α) (n : Nat) : (row f n).length = n := by simp [row]
theorem row_get {f : Nat → α} {n k : Nat} (h : k < n) : (row f n)[k]? = some (f k) := by simp [row, h]
theorem row_ext {f g : Nat → α} {n : Nat} (h : ∀ k, k < n → f k = g k) : row f n = row g n := by
  unfold row
  exact List.map_congr_left fun k hk => h k (by simpa using hk)
def upd (f : Nat → α) (i : Nat) (v : α) : Nat → α := fun k => if k = i then v else f k
def swp (f : Nat → α) (i j : Nat) : Nat → α := fun k => if k = i then f j else if k = j then f i else f k
theorem row_set (f : Nat → α) (n i : Nat) (v : α) : (row f n).set i v = row (upd f i v) n := by
  apply List.ext_getElem?
  intro k
  rw [List.getElem?_set]
  by_cases hk : k < n
  · rw [row_get hk]
    by_cases hik : i = k
    · subst hik; rw [row_get (f := upd f i v) hk]; simp [row_length, hk, upd]
    · rw [if_neg hik, row_get hk]; simp [upd, Ne.symm hik]
  · have h1 : (row f n)[k]? = none := by simp [row, hk]
    have h2 : (row (upd f i v) n)[k]? = none := by simp [row, hk]
    rw [h1, h2]
    by_cases hik : i = k
    · subst hik; simp [row_length, hk]
    · rw [if_neg hik]
theorem upd_upd (f : Nat → α) (i j : Nat) : upd (upd f i (f j)) j (f i) = swp f i j := by
  funext k
  unfold upd swp
  by_cases h1 : k = j
  · by_cases h2 : k = i
    · subst h1; subst h2; simp
    · subst h1; simp [h2]
  · by_cases h2 : k = i
    · subst h2; simp [h1]
    · simp [h1, h2]
theorem swp_perm (f : Nat → α) {n i j : Nat} (hi : i < n) (hj : j < n) : (row (swp f i j) n).Perm (row f n) := by
  have e : row (swp f i j) n = ((row f n).toArray.swap i j (by simp [row_length, hi]) (by simp [row_length, hj])).toList := by
    apply List.ext_getElem
    · simp [row_length]
    · intro k h1 h2
      have hk : k < n := by simpa [row_length] using h1
      simp only [row, swp, List.getElem_map, List.getElem_range, Array.toList_swap, List.getElem_set]
      by_cases h3 : k = j
      · subst h3
        by_cases h4 : k = i
        · subst h4; simp
        · simp [h4]
      · by_cases h4 : k = i
        · subst h4; simp [Ne.symm h3]
        · simp [h3, h4, Ne.symm h3, Ne.symm h4]
  rw [e]
  have := Array.swap_perm (xs := (row f n).toArray) (i := i) (j := j) (by simp [row_length, hi]) (by simp [row_length, hj])
  exact Array.perm_iff_toList_perm.1 this
/-- f turned within [a, b): the same things, each still there. -/
structure Turned (f g : Nat → α) (a b n : Nat) : Prop where
  out : ∀ k, k < a ∨ b ≤ k → g k = f k
  inn : ∀ k, a ≤ k → k < b → ∃ k', a ≤ k' ∧ k' < b ∧ g k = f k'
  perm : (row g n).Perm (row f n)
theorem Turned.refl (f : Nat → α) (a b n : Nat) : Turned f f a b n := ⟨fun _ _ => rfl, fun k h1 h2 => ⟨k, h1, h2, rfl⟩, List.Perm.refl _⟩
theorem Turned.wide {f g : Nat → α} {a b a' b' n : Nat} (h : Turned f g a b n) (ha : a' ≤ a) (hb : b ≤ b') : Turned f g a' b' n := by
  refine ⟨fun k hk => h.out k (by omega), fun k h1 h2 => ?_, h.perm⟩
  by_cases hk : a ≤ k ∧ k < b
  · obtain ⟨k', c1, c2, c3⟩ := h.inn k hk.1 hk.2
    exact ⟨k', by omega, by omega, c3⟩
  · exact ⟨k, h1, h2, h.out k (by omega)⟩
theorem Turned.trans {f g u : Nat → α} {a b n : Nat} (h : Turned f g a b n) (k : Turned g u a b n) : Turned f u a b n := by
  refine ⟨fun x hx => (k.out x hx).trans (h.out x hx), fun x h1 h2 => ?_, k.perm.trans h.perm⟩
  obtain ⟨y, y1, y2, y3⟩ := k.inn x h1 h2
  obtain ⟨z, z1, z2, z3⟩ := h.inn y y1 y2
  exact ⟨z, z1, z2, y3.trans z3⟩
theorem Turned.swap_ (f : Nat → α) {i j a b n : Nat} (hi : a ≤ i ∧ i < b) (hj : a ≤ j ∧ j < b) (hb : b ≤ n) : Turned f (swp f i j) a b n := by
  refine ⟨fun k hk => ?_, fun k h1 h2 => ?_, swp_perm f (by omega) (by omega)⟩
  · unfold Stb.swp; rw [if_neg (by omega), if_neg (by omega)]
  · unfold Stb.swp
    by_cases h3 : k = i
    · exact ⟨j, hj.1, hj.2, by rw [if_pos h3]⟩
    · by_cases h4 : k = j
      · exact ⟨i, hi.1, hi.2, by rw [if_neg h3, if_pos h4]⟩
      · exact ⟨k, h1, h2, by rw [if_neg h3, if_neg h4]⟩
/-- Two stretches of n exchanged. -/
def exch (f : Nat → α) (a b n : Nat) : Nat → α := fun k => if a ≤ k ∧ k < a + n then f (k - a + b) else if b ≤ k ∧ k < b + n then f (k - b + a) else f k
theorem exch_zero (f : Nat → α) (a b : Nat) : exch f a b 0 = f := by
  funext k; unfold exch; rw [if_neg (by omega), if_neg (by omega)]
theorem exch_step (f : Nat → α) {a b n : Nat} (h : a + n + 1 ≤ b) : swp (exch f a b n) (a + n) (b + n) = exch f a b (n + 1) := by
  funext k
  unfold swp exch
  by_cases h1 : k = a + n
  · subst h1
    rw [if_pos rfl, if_neg (by omega), if_neg (by omega), if_pos (by omega)]
    congr 1; omega
  · rw [if_neg h1]
    by_cases h2 : k = b + n
    · subst h2
      rw [if_pos rfl, if_neg (by omega), if_neg (by omega), if_neg (by omega), if_pos (by omega)]
      congr 1; omega
    · rw [if_neg h2]
      by_cases h3 : a ≤ k ∧ k < a + n
      · rw [if_pos h3, if_pos (by omega)]
      · rw [if_neg h3]
        by_cases h4 : b ≤ k ∧ k < b + n
        · rw [if_pos h4, if_neg (by omega), if_pos (by omega)]
        · rw [if_neg h4, if_neg (by omega), if_neg (by omega)]
/-- Two neighbouring stretches [a, m) and [m, b) in the other order. -/
def rota (f : Nat → α) (a m b : Nat) : Nat → α := fun k => if a ≤ k ∧ k < a + (b - m) then f (k - a + m) else if a + (b - m) ≤ k ∧ k < b then f (k - (b - m)) else f k
theorem rota_left (f : Nat → α) {m i j : Nat} (hi : i ≤ m) (hj : j < i) : rota (exch f (m - i) m j) (m - i + j) m (m + j) = rota f (m - i) m (m + j) := by
  funext k
  unfold rota exch
  have e : m + j - m = j := by omega
  rw [e]
  by_cases h0 : k < m - i ∨ m + j ≤ k
  · rw [if_neg (by omega), if_neg (by omega), if_neg (by omega), if_neg (by omega), if_neg (by omega), if_neg (by omega)]
  by_cases h1 : k < m - i + j
  · rw [if_neg (by omega), if_neg (by omega), if_pos (by omega), if_pos (by omega)]
  by_cases h2 : k < m - i + j + j
  · rw [if_pos (by omega), if_neg (by omega), if_pos (by omega), if_neg (by omega), if_pos (by omega)]
    congr 1; omega
  · rw [if_neg (by omega), if_pos (by omega), if_neg (by omega), if_neg (by omega), if_neg (by omega), if_pos (by omega)]
theorem rota_right (f : Nat → α) {m i j : Nat} (hi : i ≤ m) (hj : i < j) : rota (exch f (m - i) (m + j - i) i) (m - i) m (m + j - i) = rota f (m - i) m (m + j) := by
  funext k
  unfold rota exch
  have e : m + j - m = j := by omega
  have e2 : m + j - i - m = j - i := by omega
  rw [e, e2]
  by_cases h0 : k < m - i ∨ m + j ≤ k
  · rw [if_neg (by omega), if_neg (by omega), if_neg (by omega), if_neg (by omega), if_neg (by omega), if_neg (by omega)]
  by_cases h1 : k < m - i + (j - i)
  · rw [if_pos (by omega), if_neg (by omega), if_neg (by omega), if_pos (by omega)]
  by_cases h2 : k < m + j - i
  · rw [if_neg (by omega), if_pos (by omega), if_pos (by omega), if_pos (by omega)]
    congr 1; omega
  · rw [if_neg (by omega), if_neg (by omega), if_neg (by omega), if_pos (by omega), if_neg (by omega), if_pos (by omega)]
    congr 1; omega
theorem rota_same (f : Nat → α) {m i : Nat} (hi : i ≤ m) : exch f (m - i) m i = rota f (m - i) m (m + i) := by
  funext k
  unfold rota exch
  have e : m + i - m = i := by omega
  rw [e]
  by_cases h0 : k < m - i ∨ m + i ≤ k
  · rw [if_neg (by omega), if_neg (by omega), if_neg (by omega), if_neg (by omega)]
  by_cases h1 : k < m
  · rw [if_pos (by omega), if_pos (by omega)]
  · rw [if_neg (by omega), if_pos (by omega), if_neg (by omega), if_pos (by omega)]
    congr 1; omega
theorem exch_turned (f : Nat → α) {a b N : Nat} : ∀ n, a + n ≤ b → b + n ≤ N → Turned f (exch f a b n) a (b + n) N
  | 0, _, _ => by rw [exch_zero]; exact Turned.refl _ _ _ _
  | n + 1, h1, h2 => by
    rw [← exch_step f (show a + n + 1 ≤ b by omega)]
    exact ((exch_turned f n (by omega) (by omega)).wide (Nat.le_refl _) (by omega)).trans (Turned.swap_ _ ⟨by omega, by omega⟩ ⟨by omega, by omega⟩ h2)
theorem rota_turned {N : Nat} : ∀ (q : Nat) (f : Nat → α) (m i j : Nat), i + j ≤ q → i ≤ m → m + j ≤ N → Turned f (rota f (m - i) m (m + j)) (m - i) (m + j) N := by
  intro q
  induction q with
  | zero =>
    intro f m i j h _ _
    obtain rfl : i = 0 := by omega
    obtain rfl : j = 0 := by omega
    have : rota f (m - 0) m (m + 0) = f := by
      funext k; unfold rota; rw [if_neg (by omega), if_neg (by omega)]
    rw [this]; exact Turned.refl _ _ _ _
  | succ q ih =>
    intro f m i j h hi hN
    rcases Nat.lt_trichotomy i j with hlt | he | hgt
    · by_cases h0 : i = 0
      · subst h0
        have : rota f (m - 0) m (m + j) = f := by
          funext k; unfold rota
          by_cases hk : m ≤ k ∧ k < m + j
          · rw [if_pos (by omega)]; congr 1; omega
          · rw [if_neg (by omega), if_neg (by omega)]
        rw [this]; exact Turned.refl _ _ _ _
      · rw [← rota_right f hi hlt]
        have h1 := exch_turned f (a := m - i) (b := m + j - i) (N := N) i (by omega) (by omega)
        have h2 := ih (exch f (m - i) (m + j - i) i) m i (j - i) (by omega) hi (by omega)
        rw [show m + (j - i) = m + j - i by omega] at h2
        exact (h1.wide (Nat.le_refl _) (by omega)).trans (h2.wide (Nat.le_refl _) (by omega))
    · subst he
      rw [← rota_same f hi]
      exact exch_turned f i (by omega) hN
    · by_cases h0 : j = 0
      · subst h0
        have : rota f (m - i) m (m + 0) = f := by
          funext k; unfold rota
          by_cases hk : m - i ≤ k ∧ k < m
          · rw [if_neg (by omega), if_pos (by omega)]; congr 1; omega
          · rw [if_neg (by omega), if_neg (by omega)]
        rw [this]; exact Turned.refl _ _ _ _
      · rw [← rota_left f hi hgt]
        have h1 := exch_turned f (a := m - i) (b := m) (N := N) j (by omega) (by omega)
        have h2 := ih (exch f (m - i) m j) m (i - j) j (by omega) (by omega) (by omega)
        rw [show m - (i - j) = m - i + j by omega] at h2
        exact h1.trans (h2.wide (by omega) (Nat.le_refl _))
theorem rota_turned' (f : Nat → α) {a m b N : Nat} (h1 : a ≤ m) (h2 : m ≤ b) (h3 : b ≤ N) : Turned f (rota f a m b) a b N := by
  have := rota_turned (N := N) (m - a + (b - m)) f m (m - a) (b - m) (Nat.le_refl _) (by omega) (by omega)
  rw [show m - (m - a) = a by omega, show m + (b - m) = b by omega] at this
  exact this
/-- One thing moved up. -/
theorem rota_up (f : Nat → α) {a k : Nat} (h : a ≤ k) : swp (rota f a (a + 1) (k + 1)) k (k + 1) = rota f a (a + 1) (k + 2) := by
  funext x
  unfold swp rota
  by_cases h1 : x = k
  · subst h1
    rw [if_pos rfl, if_neg (by omega), if_neg (by omega), if_pos (by omega)]
    congr 1; omega
  rw [if_neg h1]
  by_cases h2 : x = k + 1
  · subst h2
    rw [if_pos rfl, if_neg (by omega), if_pos (by omega), if_neg (by omega), if_pos (by omega)]
    congr 1; omega
  rw [if_neg h2]
  by_cases h3 : a ≤ x ∧ x < k
  · rw [if_pos (by omega), if_pos (by omega)]
  · rw [if_neg (by omega), if_neg (by omega), if_neg (by omega), if_neg (by omega)]
/-- One thing moved down. -/
theorem rota_down (f : Nat → α) {m k : Nat} (h : k + 1 ≤ m) : swp (rota f (k + 1) m (m + 1)) (k + 1) k = rota f k m (m + 1) := by
  funext x
  unfold swp rota
  have e : m + 1 - m = 1 := by omega
  rw [e]
  by_cases h1 : x = k + 1
  · subst h1
    rw [if_pos rfl, if_neg (by omega), if_neg (by omega), if_neg (by omega), if_pos (by omega)]
    congr 1
  rw [if_neg h1]
  by_cases h2 : x = k
  · subst h2
    rw [if_pos rfl, if_pos (by omega), if_pos (by omega)]
    congr 1; omega
  rw [if_neg h2]
  by_cases h3 : k + 1 < x ∧ x < m + 1
  · rw [if_neg (by omega), if_pos (by omega), if_neg (by omega), if_pos (by omega)]
  · rw [if_neg (by omega), if_neg (by omega), if_neg (by omega), if_neg (by omega)]
theorem rota_nil (f : Nat → α) (a m b : Nat) (h : a = m ∨ m = b) (h1 : a ≤ m) (h2 : m ≤ b) : rota f a m b = f := by
  funext x
  unfold rota
  by_cases h3 : a ≤ x ∧ x < a + (b - m)
  · rw [if_pos h3]; congr 1; omega
  · rw [if_neg h3]
    by_cases h4 : a + (b - m) ≤ x ∧ x < b
    · rw [if_pos h4]; congr 1; omega
    · rw [if_neg h4]
/-- What the order of a comparison, the order wanted and the order at the beginning have to do with each other. -/
structure Ord3 (lt : α → α → Bool) (R S : α → α → Prop) : Prop where
  of_lt : ∀ x y, lt x y = true → R x y
  tie : ∀ x y, lt y x = false → S x y → R x y
  left : ∀ x y z, R x y → lt y z = true → lt x z = true
  right : ∀ x y z, lt x y = true → R y z → lt x z = true
def Srt (R : α → α → Prop) (f : Nat → α) (a b : Nat) : Prop := ∀ i j, a ≤ i → i < j → j < b → R (f i) (f j)
def Crs (S : α → α → Prop) (f : Nat → α) (a m b : Nat) : Prop := ∀ i j, a ≤ i → i < m → m ≤ j → j < b → S (f i) (f j)
section
variable {lt : α → α → Bool} {R S : α → α → Prop} {f g : Nat → α} {a m b n : Nat}
theorem Srt.sub {a' b' : Nat} (h : Srt R f a b) (h1 : a ≤ a') (h2 : b' ≤ b) : Srt R f a' b' := fun i j q1 q2 q3 => h i j (by omega) q2 (by omega)
/-- The stretch of one thing put into the stretch behind it. -/
theorem put_up (o : Ord3 lt R S) {i : Nat} (hi : a + 1 ≤ i) (hib : i ≤ b) (hs : Srt R f (a + 1) b) (hc : Crs S f a (a + 1) b) (h1 : i = a + 1 ∨ lt (f (i - 1)) (f a) = true) (h2 : i = b ∨ lt (f i) (f a) = false) : Srt R (rota f a (a + 1) i) a b := by
  have lo : ∀ k, a + 1 ≤ k → k < i → R (f k) (f a) := by
    intro k q1 q2
    rcases h1 with h1 | h1
    · omega
    · by_cases hk : k = i - 1
      · subst hk; exact o.of_lt _ _ h1
      · exact o.of_lt _ _ (o.left _ _ _ (hs k (i - 1) q1 (by omega) (by omega)) h1)
  have hi2 : ∀ k, i ≤ k → k < b → R (f a) (f k) := by
    intro k q1 q2
    rcases h2 with h2 | h2
    · omega
    · refine o.tie _ _ ?_ (hc a k (Nat.le_refl _) (by omega) (by omega) q2)
      by_cases hk : k = i
      · subst hk; exact h2
      · rcases hq : lt (f k) (f a) with _ | _
        · rfl
        · have := o.left _ _ _ (hs i k hi (by omega) q2) hq
          rw [this] at h2; cases h2
  intro x y q1 q2 q3
  unfold rota
  by_cases hx : x < i - 1
  · rw [if_pos (show a ≤ x ∧ x < a + (i - (a + 1)) by omega)]
    by_cases hy : y < i - 1
    · rw [if_pos (by omega)]; exact hs _ _ (by omega) (by omega) (by omega)
    · rw [if_neg (show ¬ (a ≤ y ∧ y < a + (i - (a + 1))) by omega)]
      by_cases hy2 : y = i - 1
      · rw [if_pos (by omega), show y - (i - (a + 1)) = a by omega]; exact lo _ (by omega) (by omega)
      · rw [if_neg (by omega)]; exact hs _ _ (by omega) (by omega) q3
  · rw [if_neg (show ¬ (a ≤ x ∧ x < a + (i - (a + 1))) by omega), if_neg (show ¬ (a ≤ y ∧ y < a + (i - (a + 1))) by omega), if_neg (show ¬ (a + (i - (a + 1)) ≤ y ∧ y < i) by omega)]
    by_cases hx2 : x = i - 1
    · rw [if_pos (by omega), show x - (i - (a + 1)) = a by omega]; exact hi2 _ (by omega) q3
    · rw [if_neg (by omega)]; exact hs _ _ (by omega) q2 q3
/-- The stretch of one thing put into the stretch ahead of it. -/
theorem put_down (o : Ord3 lt R S) {i : Nat} (hi : a ≤ i) (him : i ≤ m) (hs : Srt R f a m) (hc : Crs S f a m (m + 1)) (h1 : i = a ∨ lt (f m) (f (i - 1)) = false) (h2 : i = m ∨ lt (f m) (f i) = true) : Srt R (rota f i m (m + 1)) a (m + 1) := by
  have lo : ∀ k, a ≤ k → k < i → R (f k) (f m) := by
    intro k q1 q2
    rcases h1 with h1 | h1
    · omega
    · refine o.tie _ _ ?_ (hc k m q1 (by omega) (Nat.le_refl _) (by omega))
      by_cases hk : k = i - 1
      · subst hk; exact h1
      · rcases hq : lt (f m) (f k) with _ | _
        · rfl
        · have := o.right _ _ _ hq (hs k (i - 1) q1 (by omega) (by omega))
          rw [this] at h1; cases h1
  have hi2 : ∀ k, i ≤ k → k < m → R (f m) (f k) := by
    intro k q1 q2
    rcases h2 with h2 | h2
    · omega
    · by_cases hk : k = i
      · subst hk; exact o.of_lt _ _ h2
      · exact o.of_lt _ _ (o.right _ _ _ h2 (hs i k hi (by omega) q2))
  intro x y q1 q2 q3
  unfold rota
  have e : m + 1 - m = 1 := by omega
  rw [e]
  by_cases hx : x < i
  · rw [if_neg (show ¬ (i ≤ x ∧ x < i + 1) by omega), if_neg (show ¬ (i + 1 ≤ x ∧ x < m + 1) by omega)]
    by_cases hy : y < i
    · rw [if_neg (by omega), if_neg (by omega)]; exact hs _ _ q1 q2 (by omega)
    · by_cases hy2 : y = i
      · rw [if_pos (by omega), show y - i + m = m by omega]; exact lo _ q1 hx
      · rw [if_neg (by omega), if_pos (by omega)]; exact hs _ _ q1 (by omega) (by omega)
  · rw [if_neg (show ¬ (i ≤ y ∧ y < i + 1) by omega), if_pos (show i + 1 ≤ y ∧ y < m + 1 by omega)]
    by_cases hx2 : x = i
    · rw [if_pos (by omega), show x - i + m = m by omega]; exact hi2 _ (by omega) (by omega)
    · rw [if_neg (by omega), if_pos (by omega)]; exact hs _ _ (by omega) (by omega) (by omega)
/-- What holds of the two halves once the middle has been turned. -/
structure Halves (R S : α → α → Prop) (g : Nat → α) (a s mid e b : Nat) : Prop where
  s1 : Srt R g a s
  s2 : Srt R g s mid
  s3 : Srt R g mid e
  s4 : Srt R g e b
  c1 : Crs S g a s mid
  c2 : Crs S g mid e b
  cr : Crs R g a mid b
theorem halves (o : Ord3 lt R S) {s e mid : Nat} (h1 : a ≤ s) (h2 : s ≤ m) (h3 : m ≤ e) (h4 : e ≤ b) (hm : s + (e - m) = mid) (hs1 : Srt R f a m) (hs2 : Srt R f m b) (hc : Crs S f a m b)
    (hlo : s = a ∨ e = b ∨ lt (f e) (f (s - 1)) = false) (hhi : s = m ∨ e = m ∨ lt (f (e - 1)) (f s) = true) : Halves R S (rota f s m e) a s mid e b := by
  have g1 : ∀ k, k < s → rota f s m e k = f k := fun k hk => by unfold rota; rw [if_neg (by omega), if_neg (by omega)]
  have g2 : ∀ k, s ≤ k → k < mid → rota f s m e k = f (k - s + m) := fun k hk hk2 => by unfold rota; rw [if_pos (by omega)]
  have g3 : ∀ k, mid ≤ k → k < e → rota f s m e k = f (k - (e - m)) := fun k hk hk2 => by unfold rota; rw [if_neg (by omega), if_pos (by omega)]
  have g4 : ∀ k, e ≤ k → rota f s m e k = f k := fun k hk => by unfold rota; rw [if_neg (by omega), if_neg (by omega)]
  refine ⟨fun i j q1 q2 q3 => ?_, fun i j q1 q2 q3 => ?_, fun i j q1 q2 q3 => ?_, fun i j q1 q2 q3 => ?_, fun i j q1 q2 q3 q4 => ?_, fun i j q1 q2 q3 q4 => ?_, fun i j q1 q2 q3 q4 => ?_⟩
  · rw [g1 i (by omega), g1 j (by omega)]; exact hs1 _ _ q1 q2 (by omega)
  · rw [g2 i (by omega) (by omega), g2 j (by omega) (by omega)]; exact hs2 _ _ (by omega) (by omega) (by omega)
  · rw [g3 i (by omega) (by omega), g3 j (by omega) (by omega)]; exact hs1 _ _ (by omega) (by omega) (by omega)
  · rw [g4 i (by omega), g4 j (by omega)]; exact hs2 _ _ (by omega) q2 q3
  · rw [g1 i (by omega), g2 j (by omega) (by omega)]; exact hc _ _ q1 (by omega) (by omega) (by omega)
  · rw [g3 i (by omega) (by omega), g4 j (by omega)]; exact hc _ _ (by omega) (by omega) (by omega) q4
  · by_cases hi : i < s
    · rw [g1 i hi]
      by_cases hj : j < e
      · rw [g3 j q3 hj]; exact hs1 _ _ q1 (by omega) (by omega)
      · rw [g4 j (by omega)]
        refine o.tie _ _ ?_ (hc _ _ q1 (by omega) (by omega) q4)
        rcases hlo with hlo | hlo | hlo
        · omega
        · omega
        · rcases hq : lt (f j) (f i) with _ | _
          · rfl
          · exfalso
            have h5 : lt (f e) (f i) = true := by
              by_cases hje : j = e
              · subst hje; exact hq
              · exact o.left _ _ _ (hs2 e j (by omega) (by omega) q4) hq
            have h6 : lt (f e) (f (s - 1)) = true := by
              by_cases his : i = s - 1
              · subst his; exact h5
              · exact o.right _ _ _ h5 (hs1 i (s - 1) q1 (by omega) (by omega))
            rw [h6] at hlo; cases hlo
    · rw [g2 i (by omega) q2]
      by_cases hj : j < e
      · rw [g3 j q3 hj]
        rcases hhi with hhi | hhi | hhi
        · omega
        · omega
        · have h5 : lt (f (i - s + m)) (f s) = true := by
            by_cases hie : i - s + m = e - 1
            · rw [hie]; exact hhi
            · exact o.left _ _ _ (hs2 (i - s + m) (e - 1) (by omega) (by omega) (by omega)) hhi
          by_cases hjs : j - (e - m) = s
          · rw [hjs]; exact o.of_lt _ _ h5
          · exact o.of_lt _ _ (o.right _ _ _ h5 (hs1 s (j - (e - m)) h1 (by omega) (by omega)))
      · rw [g4 j (by omega)]; exact hs2 _ _ (by omega) (by omega) q4
/-- The halves merged, each by itself, are in order. -/
theorem halves_join {s e mid : Nat} {u v : Nat → α} {N : Nat} (h : Halves R S g a s mid e b) (hu : Turned g u a mid N) (su : Srt R u a mid) (hv : Turned u v mid b N) (sv : Srt R v mid b) : Srt R v a b := by
  intro i j q1 q2 q3
  by_cases hj : j < mid
  · rw [hv.out i (by omega), hv.out j (by omega)]; exact su _ _ q1 q2 hj
  · by_cases hi : i < mid
    · rw [hv.out i (by omega)]
      obtain ⟨i', i1, i2, i3⟩ := hu.inn i q1 hi
      obtain ⟨j', j1, j2, j3⟩ := hv.inn j (by omega) q3
      rw [i3, j3, hu.out j' (by omega)]
      exact h.cr _ _ i1 i2 j1 j2
    · exact sv _ _ (by omega) q2 q3
theorem Turned.srt_out {N : Nat} {x y : Nat} (h : Turned f g a b N) (hs : Srt R f x y) (hd : y ≤ a ∨ b ≤ x) : Srt R g x y := fun i j q1 q2 q3 => by
  rw [h.out i (by omega), h.out j (by omega)]; exact hs _ _ q1 q2 q3
/-- Crossing pairs stand crossing when each side is turned within itself. -/
theorem Turned.crs_out {N : Nat} {x y z : Nat} (h : Turned f g a b N) (hc : Crs S f x y z) (hd : (x ≤ a ∧ b ≤ y) ∨ (y ≤ a ∧ b ≤ z) ∨ z ≤ a ∨ b ≤ x) : Crs S g x y z := by
  intro i j q1 q2 q3 q4
  have hi : ∃ i', x ≤ i' ∧ i' < y ∧ g i = f i' := by
    by_cases hk : a ≤ i ∧ i < b
    · obtain ⟨k, k1, k2, k3⟩ := h.inn i hk.1 hk.2
      exact ⟨k, by omega, by omega, k3⟩
    · exact ⟨i, q1, q2, h.out i (by omega)⟩
  have hj : ∃ j', y ≤ j' ∧ j' < z ∧ g j = f j' := by
    by_cases hk : a ≤ j ∧ j < b
    · obtain ⟨k, k1, k2, k3⟩ := h.inn j hk.1 hk.2
      exact ⟨k, by omega, by omega, k3⟩
    · exact ⟨j, q3, q4, h.out j (by omega)⟩
  obtain ⟨i', i1, i2, i3⟩ := hi
  obtain ⟨j', j1, j2, j3⟩ := hj
  rw [i3, j3]; exact hc _ _ i1 i2 j1 j2
end
end
theorem Turned.one {α : Type} {f g : Nat → α} {a n : Nat} (h : Turned f g a (a + 1) n) : g = f := by
  funext k
  by_cases hk : k = a
  · subst hk
    obtain ⟨k', h1, h2, h3⟩ := h.inn k (Nat.le_refl _) (by omega)
    rw [h3, show k' = k by omega]
  · exact h.out k (by omega)
theorem Turned.none {α : Type} {f : Nat → α} (a b n : Nat) : Turned f f a b n := Turned.refl f a b n
theorem rota_at {α : Type} (f : Nat → α) (k m : Nat) : rota f k m (m + 1) k = f m := by
  unfold rota
  rw [if_pos (by omega), show k - k + m = m by omega]
theorem rota_lo {α : Type} (f : Nat → α) {k m b x : Nat} (h : x < k) : rota f k m b x = f x := by
  unfold rota
  rw [if_neg (by omega), if_neg (by omega)]
theorem rota_end {α : Type} (f : Nat → α) {a k : Nat} (h : a ≤ k) : rota f a (a + 1) (k + 1) k = f a := by
  unfold rota
  rw [if_neg (by omega), if_pos (by omega), show k - (k + 1 - (a + 1)) = a by omega]
theorem rota_hi {α : Type} (f : Nat → α) {a m b x : Nat} (h : b ≤ x) (hm : m ≤ b) : rota f a m b x = f x ∨ x < a + (b - m) := by
  by_cases h1 : x < a + (b - m)
  · exact .inr h1
  · left; unfold rota; rw [if_neg (by omega), if_neg (by omega)]
theorem dvd_gap {B x y : Nat} (hx : B ∣ x) (hy : B ∣ y) (h : x < y) : x + B ≤ y := by
  have h1 : B ∣ y - x := Nat.dvd_sub hy hx
  have h2 := Nat.le_of_dvd (by omega) h1
  omega
section
variable {α : Type} {R S : α → α → Prop} {f0 f g : Nat → α} {a n B : Nat}
structure Blks (R S : α → α → Prop) (f : Nat → α) (B n : Nat) : Prop where
  srt : ∀ x, B ∣ x → Srt R f x (min (x + B) n)
  crs : ∀ x, B ∣ x → Crs S f 0 x n
structure Ins (R S : α → α → Prop) (f0 f : Nat → α) (a n : Nat) : Prop where
  srt : ∀ x, 20 ∣ x → x < a → Srt R f x (x + 20)
  same : ∀ x, a ≤ x → f x = f0 x
  crs : ∀ x, 20 ∣ x → Crs S f 0 x n
  tur : Turned f0 f 0 n n
theorem Srt.crs (h : Srt S f0 0 n) (x : Nat) : Crs S f0 0 x n := fun i j h1 h2 h3 h4 => h i j h1 (by omega) h4
theorem Ins.start (h : Srt S f0 0 n) : Ins R S f0 f0 0 n := ⟨fun x _ hx => by omega, fun _ _ => rfl, fun x _ => h.crs x, Turned.refl _ _ _ _⟩
theorem Ins.pre (h : Ins R S f0 f a n) (hs : Srt S f0 0 n) {b : Nat} (hb : b ≤ n) : Srt S f a b := fun i j h1 h2 h3 => by
  rw [h.same i h1, h.same j (by omega)]; exact hs i j (by omega) h2 (by omega)
theorem Ins.step (h : Ins R S f0 f a n) (ha : 20 ∣ a) (hb : a + 20 ≤ n) (ht : Turned f g a (a + 20) n) (hs : Srt R g a (a + 20)) : Ins R S f0 g (a + 20) n := by
  refine ⟨fun x hx hxa => ?_, fun x hx => (ht.out x (by omega)).trans (h.same x (by omega)), fun x hx => ?_, h.tur.trans (ht.wide (by omega) hb)⟩
  · by_cases hlt : x < a
    · exact ht.srt_out (h.srt x hx hlt) (.inl (dvd_gap hx ha hlt))
    · by_cases he : x = a
      · subst he; exact hs
      · have := dvd_gap ha hx (by omega); omega
  · refine ht.crs_out (h.crs x hx) ?_
    by_cases hlt : a < x
    · have := dvd_gap ha hx hlt; omega
    · omega
theorem Ins.last (h : Ins R S f0 f a n) (ha : 20 ∣ a) (hn : n < a + 20) (han : a ≤ n) (ht : Turned f g a n n) (hs : Srt R g a n) : Blks R S g 20 n ∧ Turned f0 g 0 n n := by
  refine ⟨⟨fun x hx => ?_, fun x hx => ?_⟩, h.tur.trans (ht.wide (by omega) (Nat.le_refl _))⟩
  · by_cases hlt : x < a
    · exact (ht.srt_out (h.srt x hx hlt) (.inl (dvd_gap hx ha hlt))).sub (Nat.le_refl _) (by omega)
    · exact hs.sub (by omega) (by omega)
  · refine ht.crs_out (h.crs x hx) ?_
    by_cases hlt : a < x
    · have := dvd_gap ha hx hlt; omega
    · omega
structure Mrg (R S : α → α → Prop) (f0 f : Nat → α) (B a n : Nat) : Prop where
  lo : ∀ x, 2 * B ∣ x → x < a → Srt R f x (x + 2 * B)
  hi : ∀ x, B ∣ x → a ≤ x → Srt R f x (min (x + B) n)
  c2 : ∀ x, 2 * B ∣ x → Crs S f 0 x n
  c1 : ∀ x, B ∣ x → a ≤ x → Crs S f 0 x n
  tur : Turned f0 f 0 n n
theorem dvd_two {B x : Nat} (h : 2 * B ∣ x) : B ∣ x := Nat.dvd_trans ⟨2, by omega⟩ h
theorem Mrg.start (h : Blks R S f B n) (ht : Turned f0 f 0 n n) : Mrg R S f0 f B 0 n :=
  ⟨fun x _ hx => by omega, fun x hx _ => h.srt x hx, fun x hx => h.crs x (dvd_two hx), fun x hx _ => h.crs x hx, ht⟩
theorem Mrg.pre (h : Mrg R S f0 f B a n) (ha : 2 * B ∣ a) {b : Nat} (h1 : a + B < b) (h2 : b ≤ a + 2 * B) (hb : b ≤ n) : Srt R f a (a + B) ∧ Srt R f (a + B) b ∧ Crs S f a (a + B) b := by
  have hd := dvd_two ha
  have hd2 : B ∣ a + B := (Nat.dvd_add_right hd).2 (Nat.dvd_refl B)
  refine ⟨(h.hi a hd (Nat.le_refl _)).sub (Nat.le_refl _) (by omega), (h.hi (a + B) hd2 (by omega)).sub (Nat.le_refl _) (by omega), fun i j q1 q2 q3 q4 => h.c1 (a + B) hd2 (by omega) i j (by omega) q2 q3 (by omega)⟩
theorem Mrg.step (h : Mrg R S f0 f B a n) (hB : 0 < B) (ha : 2 * B ∣ a) (hb : a + 2 * B ≤ n) (ht : Turned f g a (a + 2 * B) n) (hs : Srt R g a (a + 2 * B)) : Mrg R S f0 g B (a + 2 * B) n := by
  refine ⟨fun x hx hxa => ?_, fun x hx hxa => ?_, fun x hx => ?_, fun x hx hxa => ?_, h.tur.trans (ht.wide (by omega) hb)⟩
  · by_cases hlt : x < a
    · exact ht.srt_out (h.lo x hx hlt) (.inl (dvd_gap hx ha hlt))
    · by_cases he : x = a
      · subst he; exact hs
      · have := dvd_gap ha hx (by omega); omega
  · exact ht.srt_out (h.hi x hx (by omega)) (.inr hxa)
  · refine ht.crs_out (h.c2 x hx) ?_
    by_cases hlt : a < x
    · have := dvd_gap ha hx hlt; omega
    · omega
  · exact ht.crs_out (h.c1 x hx (by omega)) (by omega)
theorem Mrg.last (h : Mrg R S f0 f B a n) (ha : 2 * B ∣ a) (hn : n < a + 2 * B) (han : a ≤ n) (ht : Turned f g a n n) (hs : Srt R g a n) : Blks R S g (2 * B) n ∧ Turned f0 g 0 n n := by
  refine ⟨⟨fun x hx => ?_, fun x hx => ?_⟩, h.tur.trans (ht.wide (by omega) (Nat.le_refl _))⟩
  · by_cases hlt : x < a
    · exact (ht.srt_out (h.lo x hx hlt) (.inl (dvd_gap hx ha hlt))).sub (Nat.le_refl _) (by omega)
    · exact hs.sub (by omega) (by omega)
  · refine ht.crs_out (h.c2 x hx) ?_
    by_cases hlt : a < x
    · have := dvd_gap ha hx hlt; omega
    · omega
theorem Mrg.last' (h : Mrg R S f0 f B a n) (hB : 0 < B) (ha : 2 * B ∣ a) (hn : n ≤ a + B) (han : a ≤ n) : Blks R S f (2 * B) n ∧ Turned f0 f 0 n n :=
  h.last ha (by omega) han (Turned.refl _ _ _ _) ((h.hi a (dvd_two ha) (Nat.le_refl _)).sub (Nat.le_refl _) (by omega))
end
end Go.Proofs.YtjmlcobbjpmjpaaGreatDoor.Stb
namespace Go.Proofs.YtjmlcobbjpmjpaaGreatDoor
open Go.RowKit Go.ChangeShapes Go.WideShapes Go.Deep

theorem I64_of_wf {x : Int} (h : (Lit.int .i64 x).wf = true) : I64 x := bounds_i64 h

theorem exists_list {α : Type} {p : Nat → α → Prop} : ∀ n : Nat, (∀ i, i < n → ∃ x, p i x) → ∃ l : List α, l.length = n ∧ ∀ i x, l[i]? = some x → p i x
  | 0, _ => ⟨[], rfl, fun i x h => by simp at h⟩
  | n + 1, h => by
    obtain ⟨l, hl, hp⟩ := exists_list n (fun i hi => h i (by omega))
    obtain ⟨x, hx⟩ := h n (by omega)
    refine ⟨l ++ [x], by simp [hl], fun i y hy => ?_⟩
    by_cases hi : i < n
    · rw [List.getElem?_append_left (by omega)] at hy
      exact hp i y hy
    · rw [List.getElem?_append_right (by omega)] at hy
      by_cases e : i = n
      · subst e; simp [hl] at hy; subst hy; exact hx
      · rw [List.getElem?_eq_none (by simp; omega)] at hy; cases hy

section
variable {H : Type} {enc : TypeId × Value → H} {P : Program} {w : World} {base : Nat} {spare : Nat → Bool} {held : Bool}
/-- A struct of one-cell fields: each field's own reading, at its cell. -/
theorem trod_fields {e : TypeId} {fs : Array Field} {n : Nat} {cs : List Value} {y : DataW H × List MemPlace} (he : P.underlying e = some (.struct fs)) (hone : oneCellFields P fs = true) (hl : cs.length = fs.size)
    (ht : DataW.trod enc P w base spare held n e cs = some y) : ∃ n', ∀ (j : Nat) (f : Field), fs[j]? = some f → ∃ (v : Value) (z : DataW H × List MemPlace), cs[j]? = some v ∧ DataW.trod enc P w base spare held n' f.type [v] = some z := by
  obtain ⟨ys, n', _, _, _, hyl, hf⟩ := DataW.trod_struct he ht
  refine ⟨n', fun j f hj => ?_⟩
  obtain ⟨ho, hk⟩ := hone_of hone j f hj
  have hjl : j < fs.size := (Array.getElem?_eq_some_iff.1 hj).1
  have h1 := hf j f hj
  rw [ho, hk] at h1
  have h2 : (cs.drop j).take 1 = [cs[j]'(by omega)] := by
    rw [List.drop_eq_getElem_cons (by omega)]
    rfl
  rw [h2, List.getElem?_eq_getElem (by omega)] at h1
  exact ⟨_, _, List.getElem?_eq_getElem (by omega), h1⟩
theorem field_int {n : Nat} {k : IntKind} {t : TypeId} {v : Value} {z : DataW H × List MemPlace} (ht : P.underlying t = some (.int k)) (h : DataW.trod enc P w base spare held n t [v] = some z) : ∃ x : Int, v = .int k x ∧ (Lit.int k x).wf = true := by
  obtain ⟨x, hx, _, hw⟩ := DataW.trod_int ht h
  injection hx with hx
  exact ⟨x, hx, hw⟩
theorem field_string {n : Nat} {t : TypeId} {v : Value} {z : DataW H × List MemPlace} (ht : P.underlying t = some .string) (h : DataW.trod enc P w base spare held n t [v] = some z) : ∃ s : ByteArray, v = .string s ∧ s.size ≤ maxLen := by
  obtain ⟨x, hx, _, hw⟩ := DataW.trod_string ht h
  injection hx with hx
  exact ⟨x, hx, hw⟩
theorem list2 {β : Type} {l : List β} (h : l.length = 2) {a b : β} (h0 : l[0]? = some a) (h1 : l[1]? = some b) : l = [a, b] := by
  apply List.ext_getElem?
  intro i
  match i with
  | 0 => simpa using h0
  | 1 => simpa using h1
  | i + 2 => rw [List.getElem?_eq_none (by omega)]; simp
theorem list3 {β : Type} {l : List β} (h : l.length = 3) {a b c : β} (h0 : l[0]? = some a) (h1 : l[1]? = some b) (h2 : l[2]? = some c) : l = [a, b, c] := by
  apply List.ext_getElem?
  intro i
  match i with
  | 0 => simpa using h0
  | 1 => simpa using h1
  | 2 => simpa using h2
  | i + 3 => rw [List.getElem?_eq_none (by omega)]; simp
theorem list5 {β : Type} {l : List β} (h : l.length = 5) {a b c d e : β} (h0 : l[0]? = some a) (h1 : l[1]? = some b) (h2 : l[2]? = some c) (h3 : l[3]? = some d) (h4 : l[4]? = some e) : l = [a, b, c, d, e] := by
  apply List.ext_getElem?
  intro i
  match i with
  | 0 => simpa using h0
  | 1 => simpa using h1
  | 2 => simpa using h2
  | 3 => simpa using h3
  | 4 => simpa using h4
  | i + 5 => rw [List.getElem?_eq_none (by omega)]; simp

theorem open_list {α : Type} (cell : α → List Value) (m : Nat) (good : α → Prop) (hm : ∀ x, (cell x).length = m) {t e : TypeId} {fuel : Nat} {cs : List Value} {x : DataW H × List MemPlace}
    (ht : P.underlying t = some (.slice e)) (hC : P.cellsOf e = m) (h0 : 0 < m)
    (hread : ∀ (n : Nat) (cs' : List Value) (y : DataW H × List MemPlace), cs'.length = m → DataW.trod enc P w base spare held n e cs' = some y → ∃ x, cell x = cs' ∧ good x)
    (h : DataW.trod enc P w base spare held fuel t cs = some x) :
    ∃ (A : Option Addr) (len cap : Nat) (l : List α), cs = [.slice A len cap] ∧ len ≤ 9223372036854775807 ∧ Reads w w.heap.size m A len (l.flatMap cell) ∧ ∀ x ∈ l, good x := by
  rcases open_slice ht h with ⟨rfl, _⟩ | ⟨a, len, cap, M, n, D, Pl, rfl, hb, hl, hcm, hmm, _, hi⟩
  · exact ⟨none, 0, 0, [], rfl, by omega, ⟨by simp, fun h => absurd h (by omega)⟩, fun x hx => by cases hx⟩
  · have hlM : len ≤ M := by rw [hmm]; split <;> omega
    obtain ⟨l, hll, hp⟩ := exists_list (p := fun i x => good x ∧ ∀ j, j < m → w.cell? ((a.add (i * m)).add j) = (cell x)[j]?) len (fun i hi' => by
      obtain ⟨cs', h1, h2⟩ := hi i (by omega)
      rw [hC] at h1
      obtain ⟨_, hcl, hat⟩ := World.cells?_some h1
      obtain ⟨x, rfl, hg⟩ := hread n _ _ hcl h2
      exact ⟨x, hg, hat⟩)
    refine ⟨some a, len, cap, l, rfl, by unfold maxLen at hcm; omega, ⟨?_, fun hn => ?_⟩, fun x hx => ?_⟩
    · rw [flat_length cell m hm, hll]
    · have hcell : ∀ i j, i < len → j < m → ∃ u, (l.flatMap cell)[i * m + j]? = some u ∧ w.cell? (a.add (i * m + j)) = some u := by
        intro i j hi' hj
        have hx : l[i]? = some (l[i]'(by omega)) := List.getElem?_eq_getElem (by omega)
        have h1 := (hp i _ hx).2 j hj
        rw [Go.Deep.add_add] at h1
        have h2 := flat_get cell m hm l i _ hx j hj
        have h3 : (cell (l[i]'(by omega)))[j]? = some ((cell (l[i]'(by omega)))[j]'(by rw [hm]; exact hj)) := List.getElem?_eq_getElem _
        exact ⟨_, h2.trans h3, h1.trans h3⟩
      obtain ⟨b, off, spot⟩ := a
      obtain ⟨u0, _, hc0⟩ := hcell 0 0 hn h0
      have hspot : spot = none := by simpa [Addr.add] using World.cell?_spot hc0
      subst hspot
      have hblk : b < w.heap.size := by simpa [Addr.add] using World.block_lt_of_cell? w _ hc0
      refine ⟨_, rfl, rfl, hblk, fun q u hu => ?_⟩
      have hq : q < len * m := by
        have := (List.getElem?_eq_some_iff.1 hu).1
        rwa [flat_length cell m hm, hll] at this
      have hqi : q / m < len := Nat.div_lt_of_lt_mul (by rw [Nat.mul_comm]; exact hq)
      obtain ⟨u', h1, h2⟩ := hcell (q / m) (q % m) hqi (Nat.mod_lt _ h0)
      rw [Nat.div_add_mod'] at h1 h2
      rw [hu] at h1
      injection h1 with h1
      subst h1
      have e : (⟨b, off, none⟩ : Addr).add q = ⟨b, off + q, none⟩ := by unfold Addr.add; split <;> simp_all
      rw [e] at h2
      exact h2
    · obtain ⟨j, hj, rfl⟩ := List.mem_iff_getElem.1 hx
      exact (hp j _ (List.getElem?_eq_getElem hj)).1
end
end Go.Proofs.YtjmlcobbjpmjpaaGreatDoor
namespace Go.Proofs.YtjmlcobbjpmjpaaGreatDoor
open Go.RowKit

def dgt (j : Nat) : UInt8 := UInt8.ofNat (48 + j % 10)
/-- The digits of k ahead of acc, with enough fuel. -/
def digs : Nat → Nat → List UInt8 → List UInt8
  | 0, _, acc => acc
  | f + 1, k, acc => if k = 0 then acc else digs f (k / 10) (dgt k :: acc)
def mkText (k : Nat) : ByteArray := ⟨(109 :: (if k = 0 then [48] else digs k k [])).toArray⟩
theorem digs_zero (f : Nat) (acc : List UInt8) : digs f 0 acc = acc := by cases f <;> simp [digs]
theorem digs_step {f k : Nat} (acc : List UInt8) (h : 0 < k) (hf : k ≤ f) : digs f k acc = digs (f - 1) (k / 10) (dgt k :: acc) := by
  obtain ⟨g, rfl⟩ : ∃ g, f = g + 1 := ⟨f - 1, by omega⟩
  rw [digs, if_neg (by omega)]
  rfl

theorem ba_append (x y : List UInt8) : (⟨x.toArray⟩ : ByteArray) ++ (⟨y.toArray⟩ : ByteArray) = ⟨(x ++ y).toArray⟩ := by
  apply ByteArray.ext
  simp [ByteArray.data_append]
theorem conv_digit (j : Nat) (w : World) : (convert 22 9 (.slice (some ⟨w.heap.size, 0, none⟩) 1 1)).run Tryz.prog (w.alloc (.cells #[.int .u8 (48 + (j : Int) % 10)] 5)) = .ok (.string ⟨[dgt j].toArray⟩) (w.alloc (.cells #[.int .u8 (48 + (j : Int) % 10)] 5)) := by
  have hc : ∀ i : Nat, i < 1 → (w.alloc (.cells #[.int .u8 (48 + (j : Int) % 10)] 5)).cell? ⟨w.heap.size, 0 + i, none⟩ = some (.int .u8 (([48 + (j : Int) % 10] : List Int).getD i 0)) := by
    intro i hi
    obtain rfl : i = 0 := by omega
    rw [World.cell?_alloc_at _ _ _ _ rfl]
    rfl
  rw [run_convert_bytes_arg (P := Tryz.prog) (w.alloc (.cells #[.int .u8 (48 + (j : Int) % 10)] 5)) 22 5 Tryz.underlying22 Tryz.underlying5 w.heap.size 0 1 1 [48 + (j : Int) % 10] rfl hc 9 Tryz.underlying9]
  have e : (48 + (j : Int) % 10).toNat = 48 + j % 10 := by omega
  simp [strOfNums, dgt, e]

end Go.Proofs.YtjmlcobbjpmjpaaGreatDoor
namespace Go.Proofs.YtjmlcobbjpmjpaaGreatDoor
open Go.RowKit Go.ChangeShapes Go.WideShapes Go.Deep

structure Cl where
  name : ByteArray
  station : Int
  from_ : Int
  to_ : Int
  quota : Int

def Cl.good (x : Cl) : Prop := x.name.size ≤ 9223372036854775807 ∧ I64 x.station ∧ I64 x.from_ ∧ I64 x.to_ ∧ I64 x.quota
def Cl.small (x : Cl) : Prop := x.name.size ≤ 1048576
def cellsCl (x : Cl) : List Value := [.string x.name, .int .i64 x.station, .int .i64 x.from_, .int .i64 x.to_, .int .i64 x.quota]
def clv (x : Cl) : Value := .agg #[.string x.name, .int .i64 x.station, .int .i64 x.from_, .int .i64 x.to_, .int .i64 x.quota]
def cls (l : List Cl) : List Value := l.flatMap cellsCl
theorem cls_length (l : List Cl) : (cls l).length = l.length * 5 := flat_length cellsCl 5 (fun _ => rfl) l
theorem cls_get {l : List Cl} {k : Nat} {x : Cl} (h : l[k]? = some x) : (cls l)[k * 5]? = some (.string x.name) ∧ (cls l)[k * 5 + 1]? = some (.int .i64 x.station) ∧ (cls l)[k * 5 + 2]? = some (.int .i64 x.from_) ∧ (cls l)[k * 5 + 3]? = some (.int .i64 x.to_) ∧ (cls l)[k * 5 + 4]? = some (.int .i64 x.quota) :=
  ⟨flat_get cellsCl 5 (fun _ => rfl) l k x h 0 (by omega), flat_get cellsCl 5 (fun _ => rfl) l k x h 1 (by omega), flat_get cellsCl 5 (fun _ => rfl) l k x h 2 (by omega), flat_get cellsCl 5 (fun _ => rfl) l k x h 3 (by omega), flat_get cellsCl 5 (fun _ => rfl) l k x h 4 (by omega)⟩
theorem cls_len {w : World} {B n : Nat} {A : Option Addr} {l : List Cl} (h : Reads w B 5 A n (cls l)) : l.length = n := by
  have := h.1
  rw [cls_length] at this
  omega
theorem cl_at {w : World} {B n k : Nat} {A : Option Addr} {l : List Cl} (h : Reads w B 5 A n (cls l)) (hk : k < n) :
    ∃ (x : Cl) (b off : Nat), l[k]? = some x ∧ A = some ⟨b, off, none⟩ ∧ b < B ∧ w.cell? ⟨b, off + k * 5, none⟩ = some (.string x.name) ∧ w.cell? ⟨b, off + k * 5 + 1, none⟩ = some (.int .i64 x.station) ∧ w.cell? ⟨b, off + k * 5 + 2, none⟩ = some (.int .i64 x.from_) ∧ w.cell? ⟨b, off + k * 5 + 3, none⟩ = some (.int .i64 x.to_) ∧ w.cell? ⟨b, off + k * 5 + 4, none⟩ = some (.int .i64 x.quota) := by
  obtain ⟨b, off, rfl, hb, hcell⟩ := h.at_ (by omega)
  have hl := cls_len h
  have he : l[k]? = some l[k] := List.getElem?_eq_getElem (by omega)
  obtain ⟨e0, e1, e2, e3, e4⟩ := cls_get he
  exact ⟨_, b, off, he, rfl, hb, hcell _ _ e0, hcell _ _ e1, hcell _ _ e2, hcell _ _ e3, hcell _ _ e4⟩

section
variable {H : Type} {enc : TypeId × Value → H} {w : World}
end

theorem make_cl (n : Nat) (hn : n ≤ 1048576) : ∀ w : World, (Instr.makeSlice 46 (.int .i64 (n : Int)) (.int .i64 (n : Int))).run Tryz.prog w = .ok (.slice (some ⟨w.heap.size, 0, none⟩) n n) (w.alloc (.cells (madeCells #[.string ⟨#[]⟩, .int .i64 0, .int .i64 0, .int .i64 0, .int .i64 0] (n * 5)) 48)) :=
  run_make_small 46 48 (.agg #[.string ⟨#[]⟩, .int .i64 0, .int .i64 0, .int .i64 0, .int .i64 0]) 5 48 Tryz.underlying46 (by kernel_rfl) (by decide) n hn
/-- What the marks from k0 on make of element i. -/
def clMark (k0 i : Nat) : List Value := [.string (mkText (k0 + 5 * i)), .int .i64 ((k0 : Int) + 5 * (i : Int) + 1), .int .i64 ((k0 : Int) + 5 * (i : Int) + 1 + 1), .int .i64 ((k0 : Int) + 5 * (i : Int) + 1 + 1 + 1), .int .i64 ((k0 : Int) + 5 * (i : Int) + 1 + 1 + 1 + 1)]
def clMarks (k0 n : Nat) : List Value := (List.range n).flatMap (clMark k0)
theorem clMarks_length (k0 n : Nat) : (clMarks k0 n).length = n * 5 := by rw [clMarks, flat_length (clMark k0) 5 (fun _ => rfl)]; simp
theorem clMarks_get {k0 n k : Nat} (h : k < n) (j : Nat) (hj : j < 5) : (clMarks k0 n)[k * 5 + j]? = (clMark k0 k)[j]? := flat_get (clMark k0) 5 (fun _ => rfl) (List.range n) k k (by simp [h]) j hj
end Go.Proofs.YtjmlcobbjpmjpaaGreatDoor
namespace Go.Proofs.YtjmlcobbjpmjpaaGreatDoor
open Go.RowKit

def nameC (c : UInt8) : Bool := inR c.toNat 97 122 || inR c.toNat 48 57 || decide ((c.toNat : Int) = 45)
def headS : List UInt8 → Bool
  | [] => false
  | c :: _ => inR c.toNat 97 122
/-- A name. -/
def isName (s : ByteArray) : Bool := decide (s.size ≤ 12) && headS s.data.toList && s.data.toList.all nameC
theorem byte_at (s : ByteArray) (k : Nat) (h : k < s.size) : s.data.toList[k]? = some s[k] := by
  rw [List.getElem?_eq_getElem (by simpa using h)]; rfl
theorem data_len (s : ByteArray) : s.data.toList.length = s.size := by rw [Array.length_toList]; rfl
theorem headS_at (s : ByteArray) (h : 0 < s.size) : headS s.data.toList = inR (s[0].toNat : Int) 97 122 := by
  have := byte_at s 0 h
  cases hl : s.data.toList with
  | nil => rw [hl] at this; simp at this
  | cons c r => rw [hl] at this; simp at this; rw [← this]; rfl
theorem isName_len {s : ByteArray} (h : isName s = true) : 0 < s.size ∧ s.size ≤ 12 := by
  simp only [isName, Bool.and_eq_true, decide_eq_true_eq] at h
  refine ⟨?_, h.1.1⟩
  rcases Nat.eq_zero_or_pos s.size with h0 | h0
  · have : s.data.toList = [] := List.eq_nil_of_length_eq_zero (by rw [data_len]; exact h0)
    rw [this] at h; simp [headS] at h
  · exact h0
theorem notName_long {s : ByteArray} (h : 12 < s.size) : isName s = false := by simp [isName]; omega
theorem notName_empty {s : ByteArray} (h : s.size = 0) : isName s = false := by
  have : s.data.toList = [] := List.eq_nil_of_length_eq_zero (by rw [data_len]; exact h)
  simp [isName, this, headS]
theorem notName_head {s : ByteArray} (h0 : 0 < s.size) (h : inR (s[0].toNat : Int) 97 122 = false) : isName s = false := by simp [isName, headS_at s h0, h]
theorem notName_at {s : ByteArray} {k : Nat} (h0 : k < s.size) (h : nameC s[k] = false) : isName s = false := by simp [isName, all_bad (byte_at s k h0) h]
theorem isName_mk {s : ByteArray} {k : Nat} (h1 : s.size ≤ 12) (h0 : 0 < s.size) (h2 : inR (s[0].toNat : Int) 97 122 = true) (hk : s.size = k) (h : AllTo nameC s.data.toList k) : isName s = true := by
  simp only [isName, headS_at s h0, h2, h.done (by rw [data_len]; exact hk), Bool.and_true, decide_eq_true_eq]
  exact h1

theorem implIsName_any (s : ByteArray) (w : World) (hs : s.size ≤ 9223372036854775807) : Calls Tryz.prog 135 #[.string s] w fun e w' => e = .returned (.bool (isName s)) ∧ w = w' := by
  by_cases h0 : s.size = 0
  · have HN := Lib.hid (notName_empty h0)
    have h1 : (s.size : Int) < 1 := by omega
    clear h0
    go_enter Tryz.func135, Tryz.ntmps135
    go_wp2
    go_ret
    exact ⟨ret_bool HN.out.symm, rfl⟩
  · have hp : 0 < s.size := by omega
    clear h0
    by_cases h12 : 12 < s.size
    · have HN := Lib.hid (notName_long h12)
      go_enter Tryz.func135, Tryz.ntmps135
      go_wp2
      go_ret
      exact ⟨ret_bool HN.out.symm, rfl⟩
    · have i1 : (1 : Int) ≤ (s.size : Int) := by omega
      have i2 : (s.size : Int) ≤ 12 := by omega
      by_cases h97 : (97 : Int) ≤ (s[0].toNat : Int)
      · by_cases h122 : (s[0].toNat : Int) ≤ 122
        · have HH := Lib.hid (show inR (s[0].toNat : Int) 97 122 = true from inR_true.2 ⟨h97, h122⟩)
          have HN0 := Lib.hid (show nameC s[0] = true by simp [nameC, HH.out])
          go_enter Tryz.func135, Tryz.ntmps135
          go_wp2
          go_loop [3] (fun i => ∃ k : Nat, 1 ≤ k ∧ k ≤ s.size ∧ i = .int .i64 k ∧ AllTo nameC s.data.toList k) (fun i => s.size - (intOf i).toNat)
          case atStart => exact ⟨1, by omega, by omega, rfl, (AllTo.zero _ _).step (byte_at s 0 hp) HN0.out⟩
          case round =>
            obtain ⟨k, hk1, hk, rfl, hall⟩ := hrel
            have HA := Lib.hid hall
            clear hall h97 h122
            by_cases hlt : k < s.size
            · have HE := Lib.hid (byte_at s k hlt)
              by_cases a1 : (97 : Int) ≤ (s[k].toNat : Int) ∧ (s[k].toNat : Int) ≤ 122
              · obtain ⟨a1, a2⟩ := a1
                have HC := Lib.hid (show nameC s[k] = true by simp [nameC, inR_true.2 ⟨a1, a2⟩])
                go_wp2
                go_round
                case rel => exact ⟨k + 1, by omega, by omega, by go_num, HA.out.step HE.out HC.out⟩
                case measure => simp [intOf]; omega
              · by_cases b1 : (48 : Int) ≤ (s[k].toNat : Int) ∧ (s[k].toNat : Int) ≤ 57
                · obtain ⟨b1, b2⟩ := b1
                  have a2 : (s[k].toNat : Int) < 97 := by omega
                  have HC := Lib.hid (show nameC s[k] = true by simp [nameC, inR_true.2 ⟨b1, b2⟩])
                  clear a1
                  go_wp2
                  go_round
                  case rel => exact ⟨k + 1, by omega, by omega, by go_num, HA.out.step HE.out HC.out⟩
                  case measure => simp [intOf]; omega
                · by_cases c1 : (s[k].toNat : Int) = 45
                  · have HC := Lib.hid (show nameC s[k] = true by simp [nameC, c1])
                    have c2 : ((s[k].toNat : Int) != 45) = false := by simp [c1]
                    have c3 : (s[k].toNat : Int) < 48 := by omega
                    have c4 : (s[k].toNat : Int) < 97 := by omega
                    clear a1 b1 c1
                    go_wp2
                    go_round
                    case rel => exact ⟨k + 1, by omega, by omega, by go_num, HA.out.step HE.out HC.out⟩
                    case measure => simp [intOf]; omega
                  · have HC := Lib.hid (notName_at hlt (show nameC s[k] = false by
                      have e1 : inR (s[k].toNat : Int) 97 122 = false := inR_false.2 (by omega)
                      have e2 : inR (s[k].toNat : Int) 48 57 = false := inR_false.2 (by omega)
                      simp [nameC, e1, e2, c1]))
                    have c2 : ((s[k].toNat : Int) != 45) = true := by rw [bne_iff_ne]; exact c1
                    have a3 : (s[k].toNat : Int) < 97 ∨ 122 < (s[k].toNat : Int) := by omega
                    have b3 : (s[k].toNat : Int) < 48 ∨ 57 < (s[k].toNat : Int) := by omega
                    clear a1 b1 c1
                    rcases a3 with a3 | a3 <;> rcases b3 with b3 | b3
                    all_goals first
                      | omega
                      | (go_wp2
                         go_ret
                         exact ⟨ret_bool HC.out.symm, rfl⟩)
            · obtain rfl : s.size = k := by omega
              have HN := Lib.hid (isName_mk (by omega) hp HH.out rfl HA.out)
              go_wp2
              go_ret
              exact ⟨ret_bool HN.out.symm, rfl⟩
        · have HN := Lib.hid (notName_head hp (inR_false.2 (.inr (by omega))))
          go_enter Tryz.func135, Tryz.ntmps135
          go_wp2
          go_ret
          exact ⟨ret_bool HN.out.symm, rfl⟩
      · have HN := Lib.hid (notName_head hp (inR_false.2 (.inl (by omega))))
        go_enter Tryz.func135, Tryz.ntmps135
        go_wp2
        go_ret
        exact ⟨ret_bool HN.out.symm, rfl⟩

theorem l01Small_any (c : Int) (w : World) : Calls Tryz.prog 177 #[.int .u8 c] w fun e w' => e = .returned (.bool (inR c 97 122)) ∧ w = w' := by
  by_cases h1 : (97 : Int) ≤ c <;> by_cases h2 : c ≤ 122
  all_goals
    go_enter Tryz.func177, Tryz.ntmps177
    go_wp2
    go_ret
    exact ⟨ret_bool (by simp [inR, h1, h2]), rfl⟩
theorem l01Digit_any (c : Int) (w : World) : Calls Tryz.prog 158 #[.int .u8 c] w fun e w' => e = .returned (.bool (inR c 48 57)) ∧ w = w' := by
  by_cases h1 : (48 : Int) ≤ c <;> by_cases h2 : c ≤ 57
  all_goals
    go_enter Tryz.func158, Tryz.ntmps158
    go_wp2
    go_ret
    exact ⟨ret_bool (by simp [inR, h1, h2]), rfl⟩

theorem toList_ne {s : ByteArray} (h : 0 < s.size) : ¬ s.toList = [] := by
  intro e
  have : s.toList.length = s.size := by rw [ByteArray.toList_eq]; exact data_len s
  rw [e] at this
  simp at this; omega
theorem specIsName_any (s : ByteArray) (w : World) (hs : s.size ≤ 9223372036854775807) : Calls Tryz.prog 138 #[.string s] w fun e w' => e = .returned (.bool (isName s)) ∧ w = w' := by
  by_cases h0 : s.size = 0
  · have HN := Lib.hid (notName_empty h0)
    obtain rfl : s = ⟨#[]⟩ := by
      apply ByteArray.ext
      have : s.data.toList = [] := List.eq_nil_of_length_eq_zero (by rw [data_len]; exact h0)
      exact Array.toList_inj.1 (by simpa using this)
    clear h0 hs
    go_enter Tryz.func138, Tryz.ntmps138
    go_wp2
    go_ret
    exact ⟨ret_bool HN.out.symm, rfl⟩
  · have hp : 0 < s.size := by omega
    have ne1 := toList_ne hp
    have ne2 : s.toList.isEmpty = false := by simp [ne1]
    have i1 : (1 : Int) ≤ (s.size : Int) := by omega
    have hI : ((0 : Nat) : Int) < (s.size : Int) := by omega
    clear h0
    by_cases h12 : 12 < s.size
    · have HN := Lib.hid (notName_long h12)
      have i2 : (12 : Int) < (s.size : Int) := by omega
      go_enter Tryz.func138, Tryz.ntmps138
      go_wp2
      go_ret
      exact ⟨ret_bool HN.out.symm, rfl⟩
    · have i2 : (s.size : Int) ≤ 12 := by omega
      by_cases hh : inR (s[0].toNat : Int) 97 122 = true
      · have HH := Lib.hid hh
        go_enter Tryz.func138, Tryz.ntmps138
        go_wp2_with (go_at_call 177; refine (l01Small_any _ _).mono ?_; rintro e w' ⟨rfl, rfl⟩)
        go_loop [3] (fun i => ∃ k : Nat, k ≤ s.size ∧ i = .int .i64 k ∧ AllTo nameC s.data.toList k) (fun i => s.size - (intOf i).toNat)
        case atStart => exact ⟨0, by omega, rfl, AllTo.zero _ _⟩
        case round =>
          obtain ⟨k, hk, rfl, hall⟩ := hrel
          have HA := Lib.hid hall
          clear hall hh
          by_cases hlt : k < s.size
          · have HE := Lib.hid (byte_at s k hlt)
            by_cases a1 : inR (s[k].toNat : Int) 97 122 = true
            · have HC := Lib.hid (show nameC s[k] = true by simp [nameC, a1])
              go_wp2_with (first | (go_at_call 177; refine (l01Small_any _ _).mono ?_; rintro e w' ⟨rfl, rfl⟩) | (go_at_call 158; refine (l01Digit_any _ _).mono ?_; rintro e w' ⟨rfl, rfl⟩))
              go_round
              case rel => exact ⟨k + 1, by omega, by go_num, HA.out.step HE.out HC.out⟩
              case measure => simp [intOf]; omega
            · have a1 : inR (s[k].toNat : Int) 97 122 = false := by simpa using a1
              by_cases b1 : inR (s[k].toNat : Int) 48 57 = true
              · have HC := Lib.hid (show nameC s[k] = true by simp [nameC, b1])
                go_wp2_with (first | (go_at_call 177; refine (l01Small_any _ _).mono ?_; rintro e w' ⟨rfl, rfl⟩) | (go_at_call 158; refine (l01Digit_any _ _).mono ?_; rintro e w' ⟨rfl, rfl⟩))
                go_round
                case rel => exact ⟨k + 1, by omega, by go_num, HA.out.step HE.out HC.out⟩
                case measure => simp [intOf]; omega
              · have b1 : inR (s[k].toNat : Int) 48 57 = false := by simpa using b1
                by_cases c1 : (s[k].toNat : Int) = 45
                · have HC := Lib.hid (show nameC s[k] = true by simp [nameC, c1])
                  have c2 : ((s[k].toNat : Int) != 45) = false := by simp [c1]
                  clear c1
                  go_wp2_with (first | (go_at_call 177; refine (l01Small_any _ _).mono ?_; rintro e w' ⟨rfl, rfl⟩) | (go_at_call 158; refine (l01Digit_any _ _).mono ?_; rintro e w' ⟨rfl, rfl⟩))
                  go_round
                  case rel => exact ⟨k + 1, by omega, by go_num, HA.out.step HE.out HC.out⟩
                  case measure => simp [intOf]; omega
                · have HC := Lib.hid (notName_at hlt (show nameC s[k] = false by simp [nameC, a1, b1, c1]))
                  have c2 : ((s[k].toNat : Int) != 45) = true := by rw [bne_iff_ne]; exact c1
                  clear c1
                  go_wp2_with (first | (go_at_call 177; refine (l01Small_any _ _).mono ?_; rintro e w' ⟨rfl, rfl⟩) | (go_at_call 158; refine (l01Digit_any _ _).mono ?_; rintro e w' ⟨rfl, rfl⟩))
                  go_ret
                  exact ⟨ret_bool HC.out.symm, rfl⟩
          · obtain rfl : s.size = k := by omega
            have HN := Lib.hid (isName_mk (by omega) hp HH.out rfl HA.out)
            go_wp2
            go_ret
            exact ⟨ret_bool HN.out.symm, rfl⟩
      · have hh : inR (s[0].toNat : Int) 97 122 = false := by simpa using hh
        have HN := Lib.hid (notName_head hp hh)
        go_enter Tryz.func138, Tryz.ntmps138
        go_wp2_with (go_at_call 177; refine (l01Small_any _ _).mono ?_; rintro e w' ⟨rfl, rfl⟩)
        go_ret
        exact ⟨ret_bool HN.out.symm, rfl⟩
end Go.Proofs.YtjmlcobbjpmjpaaGreatDoor
namespace Go.Proofs.YtjmlcobbjpmjpaaGreatDoor
open Go.RowKit

theorem l00In_any (n lo hi : Int) (w : World) : Calls Tryz.prog 102 #[.int .i64 n, .int .i64 lo, .int .i64 hi] w fun e w' => e = .returned (.bool (inR n lo hi)) ∧ w = w' := by
  by_cases h1 : lo ≤ n <;> by_cases h2 : n ≤ hi
  all_goals
    go_enter Tryz.func102, Tryz.ntmps102
    go_wp2
    go_ret
    exact ⟨ret_bool (by simp [inR, h1, h2]), rfl⟩

theorem within_any (n lo hi : Int) (w : World) : Calls Tryz.prog 101 #[.int .i64 n, .int .i64 lo, .int .i64 hi] w fun e w' => e = .returned (.bool (inR n lo hi)) ∧ w = w' := by
  by_cases h1 : lo ≤ n <;> by_cases h2 : n ≤ hi
  all_goals
    go_enter Tryz.func101, Tryz.ntmps101
    go_wp2
    go_ret
    exact ⟨ret_bool (by simp [inR, h1, h2]), rfl⟩

theorem isBookDay_any (d : Int) (w : World) : Calls Tryz.prog 134 #[.int .i64 d] w fun e w' => e = .returned (.bool (inR d 0 20000)) ∧ w = w' := by
  go_enter Tryz.func134, Tryz.ntmps134
  go_wp2_with (go_at_call 101; refine (within_any _ _ _ _).mono ?_; rintro e w' ⟨rfl, rfl⟩)
  go_ret
  exact ⟨rfl, rfl⟩
theorem l25Day_any (d : Int) (w : World) : Calls Tryz.prog 80 #[.int .i64 d] w fun e w' => e = .returned (.bool (inR d 0 20000)) ∧ w = w' := by
  go_enter Tryz.func80, Tryz.ntmps80
  go_wp2_with (go_at_call 102; refine (l00In_any _ _ _ _).mono ?_; rintro e w' ⟨rfl, rfl⟩)
  go_ret
  exact ⟨rfl, rfl⟩
theorem l27Day_any (d : Int) (w : World) : Calls Tryz.prog 269 #[.int .i64 d] w fun e w' => e = .returned (.bool (inR d 0 100000)) ∧ w = w' := by
  go_enter Tryz.func269, Tryz.ntmps269
  go_wp2_with (go_at_call 102; refine (l00In_any _ _ _ _).mono ?_; rintro e w' ⟨rfl, rfl⟩)
  go_ret
  exact ⟨rfl, rfl⟩
theorem isContractDay_any (d : Int) (w : World) : Calls Tryz.prog 115 #[.int .i64 d] w fun e w' => e = .returned (.bool (inR d 0 20000)) ∧ w = w' := by
  go_enter Tryz.func115, Tryz.ntmps115
  go_wp2_with (go_at_call 101; refine (within_any _ _ _ _).mono ?_; rintro e w' ⟨rfl, rfl⟩)
  go_ret
  exact ⟨rfl, rfl⟩
end Go.Proofs.YtjmlcobbjpmjpaaGreatDoor
namespace Go.Proofs.YtjmlcobbjpmjpaaGreatDoor
open Go.RowKit

def okCl (x : Cl) : Bool := isName x.name && (inR x.station 0 9 && (inR x.from_ 0 20000 && (inR x.to_ (x.from_ + 1) 20000 && inR x.quota 0 1000)))
theorem okCl_iff {x : Cl} : okCl x = true ↔ isName x.name = true ∧ (0 ≤ x.station ∧ x.station ≤ 9) ∧ (0 ≤ x.from_ ∧ x.from_ ≤ 20000) ∧ (x.from_ + 1 ≤ x.to_ ∧ x.to_ ≤ 20000) ∧ (0 ≤ x.quota ∧ x.quota ≤ 1000) := by
  simp only [okCl, Bool.and_eq_true, inR_true]
/-- One name stands ahead of another. -/
def sless (a b : ByteArray) : Bool := Op.bytesLess a.toList b.toList
def rowCl (l : List Cl) (i : Nat) : Bool := match l[i]? with
  | none => false
  | some x => okCl x && (decide (i = 0) || (match l[i - 1]? with | none => false | some y => sless y.name x.name))
theorem rowCl_bad {l : List Cl} {i : Nat} {x : Cl} (h : l[i]? = some x) (hx : okCl x = false) : rowCl l i = false := by simp [rowCl, h, hx]
theorem rowCl_zero {l : List Cl} {x : Cl} (h : l[0]? = some x) (hx : okCl x = true) : rowCl l 0 = true := by simp [rowCl, h, hx]
theorem rowCl_ok {l : List Cl} {i : Nat} {x y : Cl} (h : l[i]? = some x) (hx : okCl x = true) (hy : l[i - 1]? = some y) (hd : Op.bytesLess y.name.toList x.name.toList = true) : rowCl l i = true := by simp [rowCl, h, hx, hy, sless, hd]
theorem rowCl_late {l : List Cl} {i : Nat} {x y : Cl} (h : l[i]? = some x) (h0 : 0 < i) (hy : l[i - 1]? = some y) (hd : Op.bytesLess y.name.toList x.name.toList = false) : rowCl l i = false := by
  have : i ≠ 0 := by omega
  simp [rowCl, h, hy, sless, hd, this]
def okCls (l : List Cl) : Bool := (List.range l.length).all (rowCl l) && decide (l.length ≤ 30)
theorem crange_at {n k : Nat} (h : k < n) : (List.range n)[k]? = some k := by simp [h]

set_option maxHeartbeats 4000000 in
theorem l24One_any (x : Cl) (b off : Nat) (w : World) (hs : x.name.size ≤ 9223372036854775807) (hg : x.good) (c0 : w.cell? ⟨b, off, none⟩ = some (.string x.name)) (c1 : w.cell? ⟨b, off + 1, none⟩ = some (.int .i64 x.station)) (c2 : w.cell? ⟨b, off + 2, none⟩ = some (.int .i64 x.from_)) (c3 : w.cell? ⟨b, off + 3, none⟩ = some (.int .i64 x.to_)) (c4 : w.cell? ⟨b, off + 4, none⟩ = some (.int .i64 x.quota)) :
    Calls Tryz.prog 96 #[.pointer (some ⟨b, off, none⟩)] w fun e w' => e = .returned (.bool (okCl x)) ∧ ∃ m, w' = w.drewN m := by
  rcases h1 : isName x.name with _ | _
  · have HO := Lib.hid (show okCl x = false by simp [okCl, h1])
    have kN : ∀ W : World, Calls Tryz.prog 138 #[.string x.name] W fun e w' => e = .returned (.bool false) ∧ w' = W := fun W => (specIsName_any _ W hs).mono fun _ _ hh => ⟨by rw [hh.1, h1], hh.2.symm⟩
    clear h1
    go_enter Tryz.func96, Tryz.ntmps96
    go_wp2_with fail
    go_quiet (first | (go_at_call 138; with_reducible exact Calls.quiet_of_same (kN _)))
    go_wp2
    go_ret
    exact ⟨ret_bool HO.out.symm, _, rfl⟩
  · rcases h2 : inR x.station 0 9 with _ | _
    · have HO := Lib.hid (show okCl x = false by simp [okCl, h2])
      have kN : ∀ W : World, Calls Tryz.prog 138 #[.string x.name] W fun e w' => e = .returned (.bool true) ∧ w' = W := fun W => (specIsName_any _ W hs).mono fun _ _ hh => ⟨by rw [hh.1, h1], hh.2.symm⟩
      have kS : ∀ W : World, Calls Tryz.prog 102 #[.int .i64 x.station, .int .i64 0, .int .i64 9] W fun e w' => e = .returned (.bool false) ∧ w' = W := fun W => (l00In_any _ _ _ W).mono fun _ _ hh => ⟨by rw [hh.1, h2], hh.2.symm⟩
      clear h1 h2
      go_enter Tryz.func96, Tryz.ntmps96
      go_wp2_with fail
      go_quiet (first | (go_at_call 138; with_reducible exact Calls.quiet_of_same (kN _)) | (go_at_call 102; with_reducible exact Calls.quiet_of_same (kS _)))
      go_wp2
      go_ret
      exact ⟨ret_bool HO.out.symm, _, rfl⟩
    · rcases h3 : inR x.from_ 0 20000 with _ | _
      · have HO := Lib.hid (show okCl x = false by simp [okCl, h3])
        have kN : ∀ W : World, Calls Tryz.prog 138 #[.string x.name] W fun e w' => e = .returned (.bool true) ∧ w' = W := fun W => (specIsName_any _ W hs).mono fun _ _ hh => ⟨by rw [hh.1, h1], hh.2.symm⟩
        have kS : ∀ W : World, Calls Tryz.prog 102 #[.int .i64 x.station, .int .i64 0, .int .i64 9] W fun e w' => e = .returned (.bool true) ∧ w' = W := fun W => (l00In_any _ _ _ W).mono fun _ _ hh => ⟨by rw [hh.1, h2], hh.2.symm⟩
        have kF : ∀ W : World, Calls Tryz.prog 102 #[.int .i64 x.from_, .int .i64 0, .int .i64 20000] W fun e w' => e = .returned (.bool false) ∧ w' = W := fun W => (l00In_any _ _ _ W).mono fun _ _ hh => ⟨by rw [hh.1, h3], hh.2.symm⟩
        clear h1 h2 h3
        go_enter Tryz.func96, Tryz.ntmps96
        go_wp2_with fail
        go_quiet (first | (go_at_call 138; with_reducible exact Calls.quiet_of_same (kN _)) | (go_at_call 102; with_reducible exact Calls.quiet_of_same (kS _)) | (go_at_call 102; with_reducible exact Calls.quiet_of_same (kF _)))
        go_wp2
        go_ret
        exact ⟨ret_bool HO.out.symm, _, rfl⟩
      · have hf := inR_true.1 h3
        have hw : IntKind.i64.wrap (x.from_ + 1) = x.from_ + 1 := IntWalk.i64_in _ (by omega)
        clear hf
        rcases h4 : inR x.to_ (x.from_ + 1) 20000 with _ | _
        · have HO := Lib.hid (show okCl x = false by simp [okCl, h4])
          have kN : ∀ W : World, Calls Tryz.prog 138 #[.string x.name] W fun e w' => e = .returned (.bool true) ∧ w' = W := fun W => (specIsName_any _ W hs).mono fun _ _ hh => ⟨by rw [hh.1, h1], hh.2.symm⟩
          have kS : ∀ W : World, Calls Tryz.prog 102 #[.int .i64 x.station, .int .i64 0, .int .i64 9] W fun e w' => e = .returned (.bool true) ∧ w' = W := fun W => (l00In_any _ _ _ W).mono fun _ _ hh => ⟨by rw [hh.1, h2], hh.2.symm⟩
          have kF : ∀ W : World, Calls Tryz.prog 102 #[.int .i64 x.from_, .int .i64 0, .int .i64 20000] W fun e w' => e = .returned (.bool true) ∧ w' = W := fun W => (l00In_any _ _ _ W).mono fun _ _ hh => ⟨by rw [hh.1, h3], hh.2.symm⟩
          have kT : ∀ W : World, Calls Tryz.prog 102 #[.int .i64 x.to_, .int .i64 (x.from_ + 1), .int .i64 20000] W fun e w' => e = .returned (.bool false) ∧ w' = W := fun W => (l00In_any _ _ _ W).mono fun _ _ hh => ⟨by rw [hh.1, h4], hh.2.symm⟩
          clear h1 h2 h3 h4
          go_enter Tryz.func96, Tryz.ntmps96
          go_wp2_with fail
          go_quiet (first | (go_at_call 138; with_reducible exact Calls.quiet_of_same (kN _)) | (go_at_call 102; with_reducible exact Calls.quiet_of_same (kS _)) | (go_at_call 102; with_reducible exact Calls.quiet_of_same (kF _)) | (go_at_call 102; with_reducible exact Calls.quiet_of_same (kT _)))
          go_wp2
          go_ret
          exact ⟨ret_bool HO.out.symm, _, rfl⟩
        · rcases h5 : inR x.quota 0 1000 with _ | _
          · have HO := Lib.hid (show okCl x = false by simp [okCl, h5])
            have kN : ∀ W : World, Calls Tryz.prog 138 #[.string x.name] W fun e w' => e = .returned (.bool true) ∧ w' = W := fun W => (specIsName_any _ W hs).mono fun _ _ hh => ⟨by rw [hh.1, h1], hh.2.symm⟩
            have kS : ∀ W : World, Calls Tryz.prog 102 #[.int .i64 x.station, .int .i64 0, .int .i64 9] W fun e w' => e = .returned (.bool true) ∧ w' = W := fun W => (l00In_any _ _ _ W).mono fun _ _ hh => ⟨by rw [hh.1, h2], hh.2.symm⟩
            have kF : ∀ W : World, Calls Tryz.prog 102 #[.int .i64 x.from_, .int .i64 0, .int .i64 20000] W fun e w' => e = .returned (.bool true) ∧ w' = W := fun W => (l00In_any _ _ _ W).mono fun _ _ hh => ⟨by rw [hh.1, h3], hh.2.symm⟩
            have kT : ∀ W : World, Calls Tryz.prog 102 #[.int .i64 x.to_, .int .i64 (x.from_ + 1), .int .i64 20000] W fun e w' => e = .returned (.bool true) ∧ w' = W := fun W => (l00In_any _ _ _ W).mono fun _ _ hh => ⟨by rw [hh.1, h4], hh.2.symm⟩
            have kQ : ∀ W : World, Calls Tryz.prog 102 #[.int .i64 x.quota, .int .i64 0, .int .i64 1000] W fun e w' => e = .returned (.bool false) ∧ w' = W := fun W => (l00In_any _ _ _ W).mono fun _ _ hh => ⟨by rw [hh.1, h5], hh.2.symm⟩
            clear h1 h2 h3 h4 h5
            go_enter Tryz.func96, Tryz.ntmps96
            go_wp2_with fail
            go_quiet (first | (go_at_call 138; with_reducible exact Calls.quiet_of_same (kN _)) | (go_at_call 102; with_reducible exact Calls.quiet_of_same (kS _)) | (go_at_call 102; with_reducible exact Calls.quiet_of_same (kF _)) | (go_at_call 102; with_reducible exact Calls.quiet_of_same (kT _)) | (go_at_call 102; with_reducible exact Calls.quiet_of_same (kQ _)))
            go_wp2
            go_ret
            exact ⟨ret_bool HO.out.symm, _, rfl⟩
          · have HO := Lib.hid (show okCl x = true by simp [okCl, h1, h2, h3, h4, h5])
            have kN : ∀ W : World, Calls Tryz.prog 138 #[.string x.name] W fun e w' => e = .returned (.bool true) ∧ w' = W := fun W => (specIsName_any _ W hs).mono fun _ _ hh => ⟨by rw [hh.1, h1], hh.2.symm⟩
            have kS : ∀ W : World, Calls Tryz.prog 102 #[.int .i64 x.station, .int .i64 0, .int .i64 9] W fun e w' => e = .returned (.bool true) ∧ w' = W := fun W => (l00In_any _ _ _ W).mono fun _ _ hh => ⟨by rw [hh.1, h2], hh.2.symm⟩
            have kF : ∀ W : World, Calls Tryz.prog 102 #[.int .i64 x.from_, .int .i64 0, .int .i64 20000] W fun e w' => e = .returned (.bool true) ∧ w' = W := fun W => (l00In_any _ _ _ W).mono fun _ _ hh => ⟨by rw [hh.1, h3], hh.2.symm⟩
            have kT : ∀ W : World, Calls Tryz.prog 102 #[.int .i64 x.to_, .int .i64 (x.from_ + 1), .int .i64 20000] W fun e w' => e = .returned (.bool true) ∧ w' = W := fun W => (l00In_any _ _ _ W).mono fun _ _ hh => ⟨by rw [hh.1, h4], hh.2.symm⟩
            have kQ : ∀ W : World, Calls Tryz.prog 102 #[.int .i64 x.quota, .int .i64 0, .int .i64 1000] W fun e w' => e = .returned (.bool true) ∧ w' = W := fun W => (l00In_any _ _ _ W).mono fun _ _ hh => ⟨by rw [hh.1, h5], hh.2.symm⟩
            clear h1 h2 h3 h4 h5
            go_enter Tryz.func96, Tryz.ntmps96
            go_wp2_with fail
            go_quiet (first | (go_at_call 138; with_reducible exact Calls.quiet_of_same (kN _)) | (go_at_call 102; with_reducible exact Calls.quiet_of_same (kS _)) | (go_at_call 102; with_reducible exact Calls.quiet_of_same (kF _)) | (go_at_call 102; with_reducible exact Calls.quiet_of_same (kT _)) | (go_at_call 102; with_reducible exact Calls.quiet_of_same (kQ _)))
            go_wp2
            go_ret
            exact ⟨ret_bool HO.out.symm, _, rfl⟩

set_option maxHeartbeats 2000000 in
theorem validClient_any (x : Cl) (w : World) (hs : x.name.size ≤ 9223372036854775807) :
    Calls Tryz.prog 91 #[.agg #[.string x.name, .int .i64 x.station, .int .i64 x.from_, .int .i64 x.to_, .int .i64 x.quota]] w fun e w' => e = .returned (.bool (okCl x)) ∧ Below w.heap.size w w' := by
  rcases h1 : isName x.name with _ | _
  · have HO := Lib.hid (show okCl x = false by simp [okCl, h1])
    go_enter Tryz.func91, Tryz.ntmps91
    go_wp2_with (first | (go_at_call 101; refine (within_any _ _ _ _).mono ?_; rintro e w2 ⟨rfl, rfl⟩) | (go_at_call 135; refine (implIsName_any _ _ hs).mono ?_; rintro e w2 ⟨rfl, rfl⟩))
    go_ret
    exact ⟨ret_bool HO.out.symm, (Below.refl _ _).alloc (Nat.le_refl _) _⟩
  · rcases h2 : inR x.station 0 9 with _ | _
    · have HO := Lib.hid (show okCl x = false by simp [okCl, h2])
      go_enter Tryz.func91, Tryz.ntmps91
      go_wp2_with (first | (go_at_call 101; refine (within_any _ _ _ _).mono ?_; rintro e w2 ⟨rfl, rfl⟩) | (go_at_call 135; refine (implIsName_any _ _ hs).mono ?_; rintro e w2 ⟨rfl, rfl⟩))
      go_ret
      exact ⟨ret_bool HO.out.symm, (Below.refl _ _).alloc (Nat.le_refl _) _⟩
    · by_cases h3 : 0 ≤ x.from_
      case neg =>
        have HO := Lib.hid (show okCl x = false by (rcases h : okCl x with _ | _); (· rfl); (· have := okCl_iff.1 h; omega))
        have h3' : decide (0 ≤ x.from_) = false := decide_eq_false h3
        go_enter Tryz.func91, Tryz.ntmps91
        go_wp2_with (first | (go_at_call 101; refine (within_any _ _ _ _).mono ?_; rintro e w2 ⟨rfl, rfl⟩) | (go_at_call 135; refine (implIsName_any _ _ hs).mono ?_; rintro e w2 ⟨rfl, rfl⟩))
        go_ret
        exact ⟨ret_bool HO.out.symm, (Below.refl _ _).alloc (Nat.le_refl _) _⟩
      case pos =>
        by_cases h4 : x.from_ < x.to_
        case neg =>
          have HO := Lib.hid (show okCl x = false by (rcases h : okCl x with _ | _); (· rfl); (· have := okCl_iff.1 h; omega))
          have h4' : decide (x.from_ < x.to_) = false := decide_eq_false h4
          go_enter Tryz.func91, Tryz.ntmps91
          go_wp2_with (first | (go_at_call 101; refine (within_any _ _ _ _).mono ?_; rintro e w2 ⟨rfl, rfl⟩) | (go_at_call 135; refine (implIsName_any _ _ hs).mono ?_; rintro e w2 ⟨rfl, rfl⟩))
          go_ret
          exact ⟨ret_bool HO.out.symm, (Below.refl _ _).alloc (Nat.le_refl _) _⟩
        case pos =>
          by_cases h5 : x.to_ ≤ 20000
          case neg =>
            have HO := Lib.hid (show okCl x = false by (rcases h : okCl x with _ | _); (· rfl); (· have := okCl_iff.1 h; omega))
            have h5' : decide (x.to_ ≤ 20000) = false := decide_eq_false h5
            go_enter Tryz.func91, Tryz.ntmps91
            go_wp2_with (first | (go_at_call 101; refine (within_any _ _ _ _).mono ?_; rintro e w2 ⟨rfl, rfl⟩) | (go_at_call 135; refine (implIsName_any _ _ hs).mono ?_; rintro e w2 ⟨rfl, rfl⟩))
            go_ret
            exact ⟨ret_bool HO.out.symm, (Below.refl _ _).alloc (Nat.le_refl _) _⟩
          case pos =>
            rcases h6 : inR x.quota 0 1000 with _ | _
            · have HO := Lib.hid (show okCl x = false by simp [okCl, h6])
              go_enter Tryz.func91, Tryz.ntmps91
              go_wp2_with (first | (go_at_call 101; refine (within_any _ _ _ _).mono ?_; rintro e w2 ⟨rfl, rfl⟩) | (go_at_call 135; refine (implIsName_any _ _ hs).mono ?_; rintro e w2 ⟨rfl, rfl⟩))
              go_ret
              exact ⟨ret_bool HO.out.symm, (Below.refl _ _).alloc (Nat.le_refl _) _⟩
            · have HO := Lib.hid (show okCl x = true by have g2 := inR_true.1 h2; have g6 := inR_true.1 h6; exact okCl_iff.2 ⟨h1, g2, ⟨h3, by omega⟩, ⟨by omega, h5⟩, g6⟩)
              go_enter Tryz.func91, Tryz.ntmps91
              go_wp2_with (first | (go_at_call 101; refine (within_any _ _ _ _).mono ?_; rintro e w2 ⟨rfl, rfl⟩) | (go_at_call 135; refine (implIsName_any _ _ hs).mono ?_; rintro e w2 ⟨rfl, rfl⟩))
              go_ret
              exact ⟨ret_bool HO.out.symm, (Below.refl _ _).alloc (Nat.le_refl _) _⟩
end Go.Proofs.YtjmlcobbjpmjpaaGreatDoor
namespace Go.Proofs.YtjmlcobbjpmjpaaGreatDoor
open Go.RowKit

set_option maxHeartbeats 4000000 in
theorem l24Ok_any (A : Option Addr) (n c : Nat) (l : List Cl) (B : Nat) (w : World) (h : Reads w B 5 A n (cls l)) (hB : B ≤ w.heap.size) (hn : n ≤ 1048576) (hsm : ∀ x ∈ l, x.small) (hgd : ∀ x ∈ l, x.good) :
    Calls Tryz.prog 95 #[.slice A n c] w fun e w' => e = .returned (.bool (okCls l)) ∧ Below w.heap.size w w' := by
  have hl := Lib.hid (cls_len h)
  have HSM := Lib.hid hsm
  have HGD := Lib.hid hgd
  clear hsm hgd
  go_enter Tryz.func95, Tryz.ntmps95
  go_wp2
  go_loopw [3] (fun i wr => ∃ k : Nat, k ≤ n ∧ i = .int .i64 k ∧ AllTo (rowCl l) (List.range n) k ∧ Below w.heap.size w wr) (fun i _ => n - (intOf i).toNat)
  case atStart => exact ⟨0, Nat.zero_le _, rfl, AllTo.zero _ _, Below.refl _ _⟩
  case round =>
    obtain ⟨k, hk, rfl, hall, hbel⟩ := hrel
    have HA := Lib.hid hall
    have HBe := Lib.hid hbel
    clear hall
    by_cases hlt : k < n
    · obtain ⟨x, b, off, he, rfl, hb, c0, c1, c2, c3, c4⟩ := cl_at (h.on hB hbel) hlt
      have hs : x.name.size ≤ 9223372036854775807 := by have := HSM.out x (List.mem_of_getElem? he); unfold Cl.small at this; omega
      have hone : ∀ W, (∃ m, W = wr.drewN m) → Calls Tryz.prog 96 #[.pointer (some ⟨b, off + k * 5, none⟩)] W fun e w' => e = .returned (.bool (okCl x)) ∧ ∃ m, w' = W.drewN m := fun W ⟨m, hW⟩ => by subst hW; exact l24One_any x b _ _ hs (HGD.out x (List.mem_of_getElem? he)) c0 c1 c2 c3 c4
      have HE := Lib.hid he
      have hi0 : (0 : Int) ≤ k := by omega
      have hi1 : (k : Int) < n := by omega
      rcases hx : okCl x with _ | _
      · have HO := Lib.hid (show okCls l = false by simp only [okCls, all_bad (crange_at (show k < l.length by have := hl.out; omega)) (rowCl_bad HE.out hx), Bool.false_and])
        rw [hx] at hone
        have HOne := Lib.hid hone
        clear he hone h hbel c0 c1 c2 c3 c4 HE hx
        go_wp2_with fail
        go_quiet ((go_at_call 96; exact Calls.quiet_of (HOne.out _ ⟨_, rfl⟩)))
        go_wp2
        go_ret
        exact ⟨ret_bool HO.out.symm, below_drewN HBe.out _⟩
      · rw [hx] at hone
        have HOne := Lib.hid hone
        by_cases hk0 : k = 0
        · subst hk0
          have HR := Lib.hid (rowCl_zero HE.out hx)
          clear he hone h hbel c0 c1 c2 c3 c4 HE hx
          have hg0 : decide ((0 : Int) < ((0 : Nat) : Int)) = false := by decide
          go_wp2_with fail
          go_quiet ((go_at_call 96; exact Calls.quiet_of (HOne.out _ ⟨_, rfl⟩)))
          go_wp2
          go_roundw
          case rel => exact ⟨1, by omega, by go_num, HA.out.step (crange_at hlt) HR.out, below_drewN HBe.out _⟩
          case measure => simp [intOf]; omega
        · obtain ⟨j, rfl⟩ : ∃ j, k = j + 1 := ⟨k - 1, by omega⟩
          obtain ⟨y, b', off', hy, e2, hb', d0, d1, d2, d3, d4⟩ := cl_at (k := j) (h.on hB hbel) (by omega)
          injection e2 with e2; injection e2 with e2 e2'; subst e2; subst e2'
          have hj0 : (0 : Int) ≤ j := by omega
          have hj1 : (j : Int) < n := by omega
          have hj2 : (j : Int) + 1 < n := by omega
          have hg0 : decide ((0 : Int) < (j : Int) + 1) = true := decide_eq_true (by omega)
          rcases hd : Op.bytesLess y.name.toList x.name.toList with _ | _
          · have HO := Lib.hid (show okCls l = false by simp only [okCls, all_bad (crange_at (show j + 1 < l.length by have := hl.out; omega)) (rowCl_late HE.out (by omega) (by simpa using hy) hd), Bool.false_and])
            clear he hone h hbel c1 c2 c3 c4 d1 d2 d3 d4 hy hk0 HE hx
            go_wp2_with fail
            go_quiet ((go_at_call 96; exact Calls.quiet_of (HOne.out _ ⟨_, rfl⟩)))
            go_wp2
            go_ret
            exact ⟨ret_bool HO.out.symm, below_drewN HBe.out _⟩
          · have HR := Lib.hid (rowCl_ok HE.out hx (by simpa using hy) hd)
            clear he hone h hbel c1 c2 c3 c4 d1 d2 d3 d4 hy hk0 HE hx
            go_wp2_with fail
            go_quiet ((go_at_call 96; exact Calls.quiet_of (HOne.out _ ⟨_, rfl⟩)))
            go_wp2
            go_roundw
            case rel => exact ⟨j + 1 + 1, by omega, by go_num, HA.out.step (crange_at hlt) HR.out, below_drewN HBe.out _⟩
            case measure => simp [intOf]; omega
    · obtain rfl : k = n := by omega
      have HO := Lib.hid (show okCls l = decide (k ≤ 30) by simp only [okCls, hl.out, HA.out.done (by simp)]; simp)
      go_wp2
      go_ret
      exact ⟨ret_bool (by rw [HO.out]; simp; omega), hbel⟩

set_option maxHeartbeats 4000000 in
theorem implValidClients_any (A : Option Addr) (n c : Nat) (l : List Cl) (B : Nat) (w : World) (h : Reads w B 5 A n (cls l)) (hB : B ≤ w.heap.size) (hn : n ≤ 1048576) (hsm : ∀ x ∈ l, x.small) (hgd : ∀ x ∈ l, x.good) :
    Calls Tryz.prog 46 #[.slice A n c] w fun e w' => e = .returned (.bool (okCls l)) ∧ Below w.heap.size w w' := by
  have hl := Lib.hid (cls_len h)
  have HSM := Lib.hid hsm
  clear hsm hgd
  go_enter Tryz.func46, Tryz.ntmps46
  go_wp2
  go_loopw [7] (fun i wr => ∃ k : Nat, k ≤ n ∧ i = .int .i64 k ∧ AllTo (rowCl l) (List.range n) k ∧ Below w.heap.size w wr) (fun i _ => n - (intOf i).toNat)
  case atStart => exact ⟨0, Nat.zero_le _, rfl, AllTo.zero _ _, Below.refl _ _⟩
  case round =>
    obtain ⟨k, hk, rfl, hall, hbel⟩ := hrel
    have HA := Lib.hid hall
    have HBe := Lib.hid hbel
    clear hall
    by_cases hlt : k < n
    · obtain ⟨x, b, off, he, rfl, hb, c0, c1, c2, c3, c4⟩ := cl_at (h.on hB hbel) hlt
      have hs : x.name.size ≤ 9223372036854775807 := by have := HSM.out x (List.mem_of_getElem? he); unfold Cl.small at this; omega
      have HE := Lib.hid he
      have hi0 : (0 : Int) ≤ k := by omega
      have hi1 : (k : Int) < n := by omega
      rcases hx : okCl x with _ | _
      · have HO := Lib.hid (show okCls l = false by simp only [okCls, all_bad (crange_at (show k < l.length by have := hl.out; omega)) (rowCl_bad HE.out hx), Bool.false_and])
        have HVC := Lib.hid (show ∀ W : World, Calls Tryz.prog 91 #[.agg #[.string x.name, .int .i64 x.station, .int .i64 x.from_, .int .i64 x.to_, .int .i64 x.quota]] W fun e w' => e = .returned (.bool false) ∧ Below W.heap.size W w' from fun W => (validClient_any x W hs).mono fun _ _ hh => ⟨by rw [hh.1, hx], hh.2⟩)
        clear he h hbel HE hx
        go_wp2_with fail
        obtain ⟨wq, hwq⟩ : ∃ y, wr.alloc (.cells #[.string x.name, .int .i64 x.station, .int .i64 x.from_, .int .i64 x.to_, .int .i64 x.quota] 48) = y := ⟨_, rfl⟩
        have bx : Blk wq wr.heap.size 48 #[.string x.name, .int .i64 x.station, .int .i64 x.from_, .int .i64 x.to_, .int .i64 x.quota] := by rw [← hwq]; exact Blk.new _ _ _
        have bq : Below wr.heap.size wr wq := by rw [← hwq]; exact (Below.refl _ _).alloc (Nat.le_refl _) _
        rw [hwq]
        have q0 : wq.cell? ⟨wr.heap.size, 0, none⟩ = some (.string x.name) := bx.cellAt 0 (by simp)
        have q1 : wq.cell? ⟨wr.heap.size, 1, none⟩ = some (.int .i64 x.station) := bx.cellAt 1 (by simp)
        have q2 : wq.cell? ⟨wr.heap.size, 2, none⟩ = some (.int .i64 x.from_) := bx.cellAt 2 (by simp)
        have q3 : wq.cell? ⟨wr.heap.size, 3, none⟩ = some (.int .i64 x.to_) := bx.cellAt 3 (by simp)
        have q4 : wq.cell? ⟨wr.heap.size, 4, none⟩ = some (.int .i64 x.quota) := bx.cellAt 4 (by simp)
        have HBq := Lib.hid (bnext HBe.out bq (Nat.le_refl _))
        clear hwq bx bq c0 c1 c2 c3 c4
        refine wp_region_any (by kernel_rfl) ?_
        try (change wpAny _ _ _ _ _ _ _ (World.drew _))
        refine wpAny_ready (rs := [0]) (by kernel_rfl) (by simp) (AllReady.cons rfl (fun K hK => ?_) AllReady.nil)
        go_simp
        refine hK _ _ ?_
        clear hK K
        try simp only [Act.put, List.getElem_toArray, List.getElem_cons_succ, List.getElem_cons_zero, List.setIfInBounds_toArray, List.set_cons_zero, List.set_cons_succ]
        refine wpAny_ready (rs := [1]) (by kernel_rfl) (by simp) (AllReady.cons rfl (fun K hK => ?_) AllReady.nil)
        go_simp
        go_wp2_with ((go_at_call 91; refine (HVC.out _).mono ?_; rintro e w1 ⟨rfl, hb1⟩))
        try simp only [Act.put, List.getElem_toArray, List.getElem_cons_succ, List.getElem_cons_zero, List.setIfInBounds_toArray, List.set_cons_zero, List.set_cons_succ]
        refine wpAny_take (i := 2) (v := ?_) rfl (by kernel_rfl) (by kernel_rfl) (by kernel_rfl) (fun _ _ _ h => h) (Or.inl ⟨by kernel_rfl, ?_⟩) ?_
        rotate_left 1
        · intro w; go_simp; try with_reducible rfl
        try simp only [Act.put, List.getElem_toArray, List.getElem_cons_succ, List.getElem_cons_zero, List.setIfInBounds_toArray, List.set_cons_zero, List.set_cons_succ]
        refine wpAny_take (i := 3) (v := ?_) rfl (by kernel_rfl) (by kernel_rfl) (by kernel_rfl) (fun _ _ _ h => h) (Or.inl ⟨by kernel_rfl, ?_⟩) ?_
        rotate_left 1
        · intro w; go_simp; try with_reducible rfl
        try simp only [Act.put, List.getElem_toArray, List.getElem_cons_succ, List.getElem_cons_zero, List.setIfInBounds_toArray, List.set_cons_zero, List.set_cons_succ]
        refine wpAny_take (i := 4) (v := undef) rfl (by kernel_rfl) (by kernel_rfl) (by kernel_rfl) (fun _ _ _ h => h) (Or.inr ⟨by kernel_rfl, rfl⟩) ?_
        try simp only [Act.put, List.getElem_toArray, List.getElem_cons_succ, List.getElem_cons_zero, List.setIfInBounds_toArray, List.set_cons_zero, List.set_cons_succ]
        refine wpAny_take (i := 5) (v := undef) rfl (by kernel_rfl) (by kernel_rfl) (by kernel_rfl) (fun _ _ _ h => h) (Or.inr ⟨by kernel_rfl, rfl⟩) ?_
        try simp only [Act.put, List.getElem_toArray, List.getElem_cons_succ, List.getElem_cons_zero, List.setIfInBounds_toArray, List.set_cons_zero, List.set_cons_succ]
        refine wpAny_take (i := 6) (v := undef) rfl (by kernel_rfl) (by kernel_rfl) (by kernel_rfl) (fun _ _ _ h => h) (Or.inr ⟨by kernel_rfl, rfl⟩) ?_
        try simp only [Act.put, List.getElem_toArray, List.getElem_cons_succ, List.getElem_cons_zero, List.setIfInBounds_toArray, List.set_cons_zero, List.set_cons_succ]
        refine wpAny_take (i := 7) (v := undef) rfl (by kernel_rfl) (by kernel_rfl) (by kernel_rfl) (fun _ _ _ h => h) (Or.inr ⟨by kernel_rfl, rfl⟩) ?_
        try simp only [Act.put, List.getElem_toArray, List.getElem_cons_succ, List.getElem_cons_zero, List.setIfInBounds_toArray, List.set_cons_zero, List.set_cons_succ]
        refine wpAny_take (i := 8) (v := undef) rfl (by kernel_rfl) (by kernel_rfl) (by kernel_rfl) (fun _ _ _ h => h) (Or.inr ⟨by kernel_rfl, rfl⟩) ?_
        try simp only [Act.put, List.getElem_toArray, List.getElem_cons_succ, List.getElem_cons_zero, List.setIfInBounds_toArray, List.set_cons_zero, List.set_cons_succ]
        refine wpAny_take (i := 9) (v := undef) rfl (by kernel_rfl) (by kernel_rfl) (by kernel_rfl) (fun _ _ _ h => h) (Or.inr ⟨by kernel_rfl, rfl⟩) ?_
        try simp only [Act.put, List.getElem_toArray, List.getElem_cons_succ, List.getElem_cons_zero, List.setIfInBounds_toArray, List.set_cons_zero, List.set_cons_succ]
        refine wpAny_take (i := 10) (v := undef) rfl (by kernel_rfl) (by kernel_rfl) (by kernel_rfl) (fun _ _ _ h => h) (Or.inr ⟨by kernel_rfl, rfl⟩) ?_
        try simp only [Act.put, List.getElem_toArray, List.getElem_cons_succ, List.getElem_cons_zero, List.setIfInBounds_toArray, List.set_cons_zero, List.set_cons_succ]
        refine wpAny_take (i := 11) (v := undef) rfl (by kernel_rfl) (by kernel_rfl) (by kernel_rfl) (fun _ _ _ h => h) (Or.inr ⟨by kernel_rfl, rfl⟩) ?_
        try simp only [Act.put, List.getElem_toArray, List.getElem_cons_succ, List.getElem_cons_zero, List.setIfInBounds_toArray, List.set_cons_zero, List.set_cons_succ]
        refine wpAny_take (i := 12) (v := undef) rfl (by kernel_rfl) (by kernel_rfl) (by kernel_rfl) (fun _ _ _ h => h) (Or.inr ⟨by kernel_rfl, rfl⟩) ?_
        try simp only [Act.put, List.getElem_toArray, List.getElem_cons_succ, List.getElem_cons_zero, List.setIfInBounds_toArray, List.set_cons_zero, List.set_cons_succ]
        refine wpAny_take (i := 13) (v := undef) rfl (by kernel_rfl) (by kernel_rfl) (by kernel_rfl) (fun _ _ _ h => h) (Or.inr ⟨by kernel_rfl, rfl⟩) ?_
        try simp only [Act.put, List.getElem_toArray, List.getElem_cons_succ, List.getElem_cons_zero, List.setIfInBounds_toArray, List.set_cons_zero, List.set_cons_succ]
        refine wpAny_take (i := 14) (v := undef) rfl (by kernel_rfl) (by kernel_rfl) (by kernel_rfl) (fun _ _ _ h => h) (Or.inr ⟨by kernel_rfl, rfl⟩) ?_
        try simp only [Act.put, List.getElem_toArray, List.getElem_cons_succ, List.getElem_cons_zero, List.setIfInBounds_toArray, List.set_cons_zero, List.set_cons_succ]
        refine wpAny_take (i := 15) (v := undef) rfl (by kernel_rfl) (by kernel_rfl) (by kernel_rfl) (fun _ _ _ h => h) (Or.inr ⟨by kernel_rfl, rfl⟩) ?_
        try simp only [Act.put, List.getElem_toArray, List.getElem_cons_succ, List.getElem_cons_zero, List.setIfInBounds_toArray, List.set_cons_zero, List.set_cons_succ]
        refine wpAny_take (i := 16) (v := undef) rfl (by kernel_rfl) (by kernel_rfl) (by kernel_rfl) (fun _ _ _ h => h) (Or.inr ⟨by kernel_rfl, rfl⟩) ?_
        try simp only [Act.put, List.getElem_toArray, List.getElem_cons_succ, List.getElem_cons_zero, List.setIfInBounds_toArray, List.set_cons_zero, List.set_cons_succ]
        refine wpAny_take (i := 17) (v := ?_) rfl (by kernel_rfl) (by kernel_rfl) (by kernel_rfl) (fun _ _ _ h => h) (Or.inl ⟨by kernel_rfl, ?_⟩) ?_
        rotate_left 1
        · intro w; go_simp; try with_reducible rfl
        try simp only [Act.put, List.getElem_toArray, List.getElem_cons_succ, List.getElem_cons_zero, List.setIfInBounds_toArray, List.set_cons_zero, List.set_cons_succ]
        refine wpAny_done (by kernel_rfl) ?_ _
        have HF := Lib.hid (bnext (below_drewN HBq.out 1) hb1 (Nat.le_refl _))
        clear hb1 q0 q1 q2 q3 q4
        go_wp2_with fail
        go_ret
        exact ⟨ret_bool HO.out.symm, HF.out⟩
      · have HVC := Lib.hid (show ∀ W : World, Calls Tryz.prog 91 #[.agg #[.string x.name, .int .i64 x.station, .int .i64 x.from_, .int .i64 x.to_, .int .i64 x.quota]] W fun e w' => e = .returned (.bool true) ∧ Below W.heap.size W w' from fun W => (validClient_any x W hs).mono fun _ _ hh => ⟨by rw [hh.1, hx], hh.2⟩)
        by_cases hk0 : k = 0
        · subst hk0
          have HR := Lib.hid (rowCl_zero HE.out hx)
          simp only [Nat.zero_mul, Nat.add_zero] at c0 c1 c2 c3 c4
          clear he h hbel HE hx
          go_wp2_with fail
          obtain ⟨wq, hwq⟩ : ∃ y, wr.alloc (.cells #[.string x.name, .int .i64 x.station, .int .i64 x.from_, .int .i64 x.to_, .int .i64 x.quota] 48) = y := ⟨_, rfl⟩
          have bx : Blk wq wr.heap.size 48 #[.string x.name, .int .i64 x.station, .int .i64 x.from_, .int .i64 x.to_, .int .i64 x.quota] := by rw [← hwq]; exact Blk.new _ _ _
          have bq : Below wr.heap.size wr wq := by rw [← hwq]; exact (Below.refl _ _).alloc (Nat.le_refl _) _
          rw [hwq]
          have q0 : wq.cell? ⟨wr.heap.size, 0, none⟩ = some (.string x.name) := bx.cellAt 0 (by simp)
          have q1 : wq.cell? ⟨wr.heap.size, 1, none⟩ = some (.int .i64 x.station) := bx.cellAt 1 (by simp)
          have q2 : wq.cell? ⟨wr.heap.size, 2, none⟩ = some (.int .i64 x.from_) := bx.cellAt 2 (by simp)
          have q3 : wq.cell? ⟨wr.heap.size, 3, none⟩ = some (.int .i64 x.to_) := bx.cellAt 3 (by simp)
          have q4 : wq.cell? ⟨wr.heap.size, 4, none⟩ = some (.int .i64 x.quota) := bx.cellAt 4 (by simp)
          have HBq := Lib.hid (bnext HBe.out bq (Nat.le_refl _))
          clear hwq bx bq c0 c1 c2 c3 c4
          refine wp_region_any (by kernel_rfl) ?_
          try (change wpAny _ _ _ _ _ _ _ (World.drew _))
          refine wpAny_ready (rs := [0]) (by kernel_rfl) (by simp) (AllReady.cons rfl (fun K hK => ?_) AllReady.nil)
          go_simp
          refine hK _ _ ?_
          clear hK K
          try simp only [Act.put, List.getElem_toArray, List.getElem_cons_succ, List.getElem_cons_zero, List.setIfInBounds_toArray, List.set_cons_zero, List.set_cons_succ]
          refine wpAny_ready (rs := [1]) (by kernel_rfl) (by simp) (AllReady.cons rfl (fun K hK => ?_) AllReady.nil)
          go_simp
          go_wp2_with ((go_at_call 91; refine (HVC.out _).mono ?_; rintro e w1 ⟨rfl, hb1⟩))
          try simp only [Act.put, List.getElem_toArray, List.getElem_cons_succ, List.getElem_cons_zero, List.setIfInBounds_toArray, List.set_cons_zero, List.set_cons_succ]
          refine wpAny_take (i := 2) (v := ?_) rfl (by kernel_rfl) (by kernel_rfl) (by kernel_rfl) (fun _ _ _ h => h) (Or.inl ⟨by kernel_rfl, ?_⟩) ?_
          rotate_left 1
          · intro w; go_simp; try with_reducible rfl
          try simp only [Act.put, List.getElem_toArray, List.getElem_cons_succ, List.getElem_cons_zero, List.setIfInBounds_toArray, List.set_cons_zero, List.set_cons_succ]
          refine wpAny_take (i := 3) (v := ?_) rfl (by kernel_rfl) (by kernel_rfl) (by kernel_rfl) (fun _ _ _ h => h) (Or.inl ⟨by kernel_rfl, ?_⟩) ?_
          rotate_left 1
          · intro w; go_simp; try with_reducible rfl
          try simp only [Act.put, List.getElem_toArray, List.getElem_cons_succ, List.getElem_cons_zero, List.setIfInBounds_toArray, List.set_cons_zero, List.set_cons_succ]
          refine wpAny_take (i := 4) (v := ?_) rfl (by kernel_rfl) (by kernel_rfl) (by kernel_rfl) (fun _ _ _ h => h) (Or.inl ⟨by kernel_rfl, ?_⟩) ?_
          rotate_left 1
          · intro w; go_simp; try with_reducible rfl
          try simp only [Act.put, List.getElem_toArray, List.getElem_cons_succ, List.getElem_cons_zero, List.setIfInBounds_toArray, List.set_cons_zero, List.set_cons_succ]
          refine wpAny_take (i := 5) (v := ?_) rfl (by kernel_rfl) (by kernel_rfl) (by kernel_rfl) (fun _ _ _ h => h) (Or.inl ⟨by kernel_rfl, ?_⟩) ?_
          rotate_left 1
          · intro w; go_simp; try with_reducible rfl
          try simp only [Act.put, List.getElem_toArray, List.getElem_cons_succ, List.getElem_cons_zero, List.setIfInBounds_toArray, List.set_cons_zero, List.set_cons_succ]
          refine wpAny_take (i := 6) (v := ?_) rfl (by kernel_rfl) (by kernel_rfl) (by kernel_rfl) (fun _ _ _ h => h) (Or.inl ⟨by kernel_rfl, ?_⟩) ?_
          rotate_left 1
          · intro w; go_simp; try with_reducible rfl
          try simp only [Act.put, List.getElem_toArray, List.getElem_cons_succ, List.getElem_cons_zero, List.setIfInBounds_toArray, List.set_cons_zero, List.set_cons_succ]
          refine wpAny_take (i := 7) (v := undef) rfl (by kernel_rfl) (by kernel_rfl) (by kernel_rfl) (fun _ _ _ h => h) (Or.inr ⟨by kernel_rfl, rfl⟩) ?_
          try simp only [Act.put, List.getElem_toArray, List.getElem_cons_succ, List.getElem_cons_zero, List.setIfInBounds_toArray, List.set_cons_zero, List.set_cons_succ]
          refine wpAny_take (i := 8) (v := undef) rfl (by kernel_rfl) (by kernel_rfl) (by kernel_rfl) (fun _ _ _ h => h) (Or.inr ⟨by kernel_rfl, rfl⟩) ?_
          try simp only [Act.put, List.getElem_toArray, List.getElem_cons_succ, List.getElem_cons_zero, List.setIfInBounds_toArray, List.set_cons_zero, List.set_cons_succ]
          refine wpAny_take (i := 9) (v := undef) rfl (by kernel_rfl) (by kernel_rfl) (by kernel_rfl) (fun _ _ _ h => h) (Or.inr ⟨by kernel_rfl, rfl⟩) ?_
          try simp only [Act.put, List.getElem_toArray, List.getElem_cons_succ, List.getElem_cons_zero, List.setIfInBounds_toArray, List.set_cons_zero, List.set_cons_succ]
          refine wpAny_take (i := 10) (v := undef) rfl (by kernel_rfl) (by kernel_rfl) (by kernel_rfl) (fun _ _ _ h => h) (Or.inr ⟨by kernel_rfl, rfl⟩) ?_
          try simp only [Act.put, List.getElem_toArray, List.getElem_cons_succ, List.getElem_cons_zero, List.setIfInBounds_toArray, List.set_cons_zero, List.set_cons_succ]
          refine wpAny_take (i := 11) (v := undef) rfl (by kernel_rfl) (by kernel_rfl) (by kernel_rfl) (fun _ _ _ h => h) (Or.inr ⟨by kernel_rfl, rfl⟩) ?_
          try simp only [Act.put, List.getElem_toArray, List.getElem_cons_succ, List.getElem_cons_zero, List.setIfInBounds_toArray, List.set_cons_zero, List.set_cons_succ]
          refine wpAny_take (i := 12) (v := undef) rfl (by kernel_rfl) (by kernel_rfl) (by kernel_rfl) (fun _ _ _ h => h) (Or.inr ⟨by kernel_rfl, rfl⟩) ?_
          try simp only [Act.put, List.getElem_toArray, List.getElem_cons_succ, List.getElem_cons_zero, List.setIfInBounds_toArray, List.set_cons_zero, List.set_cons_succ]
          refine wpAny_take (i := 13) (v := undef) rfl (by kernel_rfl) (by kernel_rfl) (by kernel_rfl) (fun _ _ _ h => h) (Or.inr ⟨by kernel_rfl, rfl⟩) ?_
          try simp only [Act.put, List.getElem_toArray, List.getElem_cons_succ, List.getElem_cons_zero, List.setIfInBounds_toArray, List.set_cons_zero, List.set_cons_succ]
          refine wpAny_take (i := 14) (v := undef) rfl (by kernel_rfl) (by kernel_rfl) (by kernel_rfl) (fun _ _ _ h => h) (Or.inr ⟨by kernel_rfl, rfl⟩) ?_
          try simp only [Act.put, List.getElem_toArray, List.getElem_cons_succ, List.getElem_cons_zero, List.setIfInBounds_toArray, List.set_cons_zero, List.set_cons_succ]
          refine wpAny_take (i := 15) (v := undef) rfl (by kernel_rfl) (by kernel_rfl) (by kernel_rfl) (fun _ _ _ h => h) (Or.inr ⟨by kernel_rfl, rfl⟩) ?_
          try simp only [Act.put, List.getElem_toArray, List.getElem_cons_succ, List.getElem_cons_zero, List.setIfInBounds_toArray, List.set_cons_zero, List.set_cons_succ]
          refine wpAny_take (i := 16) (v := ?_) rfl (by kernel_rfl) (by kernel_rfl) (by kernel_rfl) (fun _ _ _ h => h) (Or.inl ⟨by kernel_rfl, ?_⟩) ?_
          rotate_left 1
          · intro w; go_simp; try with_reducible rfl
          try simp only [Act.put, List.getElem_toArray, List.getElem_cons_succ, List.getElem_cons_zero, List.setIfInBounds_toArray, List.set_cons_zero, List.set_cons_succ]
          refine wpAny_take (i := 17) (v := ?_) rfl (by kernel_rfl) (by kernel_rfl) (by kernel_rfl) (fun _ _ _ h => h) (Or.inl ⟨by kernel_rfl, ?_⟩) ?_
          rotate_left 1
          · intro w; go_simp; try with_reducible rfl
          try simp only [Act.put, List.getElem_toArray, List.getElem_cons_succ, List.getElem_cons_zero, List.setIfInBounds_toArray, List.set_cons_zero, List.set_cons_succ]
          refine wpAny_done (by kernel_rfl) ?_ _
          have HF := Lib.hid (bnext (below_drewN HBq.out 1) hb1 (Nat.le_refl _))
          clear hb1 q0 q1 q2 q3 q4
          go_wp2_with fail
          go_roundw
          case rel => exact ⟨1, by omega, by go_num, HA.out.step (crange_at hlt) HR.out, HF.out⟩
          case measure => simp [intOf]; omega
        · obtain ⟨j, rfl⟩ : ∃ j, k = j + 1 := ⟨k - 1, by omega⟩
          obtain ⟨y, b', off', hy, e2, hb', d0, d1, d2, d3, d4⟩ := cl_at (k := j) (h.on hB hbel) (by omega)
          injection e2 with e2; injection e2 with e2 e2'; subst e2; subst e2'
          have hj0 : (0 : Int) ≤ j := by omega
          have hj1 : (j : Int) < n := by omega
          have hj2 : (j : Int) + 1 < n := by omega
          have hg0 : decide ((0 : Int) < (j : Int) + 1) = true := decide_eq_true (by omega)
          rcases hd : Op.bytesLess y.name.toList x.name.toList with _ | _
          · have HO := Lib.hid (show okCls l = false by simp only [okCls, all_bad (crange_at (show j + 1 < l.length by have := hl.out; omega)) (rowCl_late HE.out (by omega) (by simpa using hy) hd), Bool.false_and])
            clear he h hbel d1 d2 d3 d4 hy hk0 HE hx
            go_wp2_with fail
            obtain ⟨wq, hwq⟩ : ∃ y, wr.alloc (.cells #[.string x.name, .int .i64 x.station, .int .i64 x.from_, .int .i64 x.to_, .int .i64 x.quota] 48) = y := ⟨_, rfl⟩
            have bx : Blk wq wr.heap.size 48 #[.string x.name, .int .i64 x.station, .int .i64 x.from_, .int .i64 x.to_, .int .i64 x.quota] := by rw [← hwq]; exact Blk.new _ _ _
            have bq : Below wr.heap.size wr wq := by rw [← hwq]; exact (Below.refl _ _).alloc (Nat.le_refl _) _
            rw [hwq]
            have q0 : wq.cell? ⟨wr.heap.size, 0, none⟩ = some (.string x.name) := bx.cellAt 0 (by simp)
            have q1 : wq.cell? ⟨wr.heap.size, 1, none⟩ = some (.int .i64 x.station) := bx.cellAt 1 (by simp)
            have q2 : wq.cell? ⟨wr.heap.size, 2, none⟩ = some (.int .i64 x.from_) := bx.cellAt 2 (by simp)
            have q3 : wq.cell? ⟨wr.heap.size, 3, none⟩ = some (.int .i64 x.to_) := bx.cellAt 3 (by simp)
            have q4 : wq.cell? ⟨wr.heap.size, 4, none⟩ = some (.int .i64 x.quota) := bx.cellAt 4 (by simp)
            have HBq := Lib.hid (bnext HBe.out bq (Nat.le_refl _))
            replace d0 := cell_on bq d0
            clear hwq bx bq c0 c1 c2 c3 c4
            have hw : IntKind.i64.wrap ((j : Int) + 1 - 1) = j := by rw [IntWalk.i64_in _ (by omega)]; omega
            have hw2 : IntKind.i64.wrap (j : Int) = j := IntWalk.i64_in _ (by omega)
            go_region_held3 (fun W => Below wq.heap.size wq W ∧ W.cell? ⟨wr.heap.size, 0, none⟩ = some (.string x.name) ∧ W.cell? ⟨wr.heap.size, 1, none⟩ = some (.int .i64 x.station) ∧ W.cell? ⟨wr.heap.size, 2, none⟩ = some (.int .i64 x.from_) ∧ W.cell? ⟨wr.heap.size, 3, none⟩ = some (.int .i64 x.to_) ∧ W.cell? ⟨wr.heap.size, 4, none⟩ = some (.int .i64 x.quota) ∧ W.cell? ⟨b, off + j * 5, none⟩ = some (.string y.name)) (first | exact ⟨(Below.refl _ _).drew, q0, q1, q2, q3, q4, d0⟩ | (go_split_ands; exact ⟨bnext (by assumption) hb1 (Nat.le_refl _), cell_on hb1 (by assumption), cell_on hb1 (by assumption), cell_on hb1 (by assumption), cell_on hb1 (by assumption), cell_on hb1 (by assumption), cell_on hb1 (by assumption)⟩)) (first | (go_at_call 91; refine (HVC.out _).mono ?_; rintro e w1 ⟨rfl, hb1⟩))
            rename_i hS
            have HF := Lib.hid (bnext HBq.out hS.1 (Nat.le_refl _))
            clear hS hb1 q0 q1 q2 q3 q4 d0 hw hw2
            go_wp2_with fail
            go_ret
            exact ⟨ret_bool HO.out.symm, HF.out⟩
          · have HR := Lib.hid (rowCl_ok HE.out hx (by simpa using hy) hd)
            clear he h hbel d1 d2 d3 d4 hy hk0 HE hx
            go_wp2_with fail
            obtain ⟨wq, hwq⟩ : ∃ y, wr.alloc (.cells #[.string x.name, .int .i64 x.station, .int .i64 x.from_, .int .i64 x.to_, .int .i64 x.quota] 48) = y := ⟨_, rfl⟩
            have bx : Blk wq wr.heap.size 48 #[.string x.name, .int .i64 x.station, .int .i64 x.from_, .int .i64 x.to_, .int .i64 x.quota] := by rw [← hwq]; exact Blk.new _ _ _
            have bq : Below wr.heap.size wr wq := by rw [← hwq]; exact (Below.refl _ _).alloc (Nat.le_refl _) _
            rw [hwq]
            have q0 : wq.cell? ⟨wr.heap.size, 0, none⟩ = some (.string x.name) := bx.cellAt 0 (by simp)
            have q1 : wq.cell? ⟨wr.heap.size, 1, none⟩ = some (.int .i64 x.station) := bx.cellAt 1 (by simp)
            have q2 : wq.cell? ⟨wr.heap.size, 2, none⟩ = some (.int .i64 x.from_) := bx.cellAt 2 (by simp)
            have q3 : wq.cell? ⟨wr.heap.size, 3, none⟩ = some (.int .i64 x.to_) := bx.cellAt 3 (by simp)
            have q4 : wq.cell? ⟨wr.heap.size, 4, none⟩ = some (.int .i64 x.quota) := bx.cellAt 4 (by simp)
            have HBq := Lib.hid (bnext HBe.out bq (Nat.le_refl _))
            replace d0 := cell_on bq d0
            clear hwq bx bq c0 c1 c2 c3 c4
            have hw : IntKind.i64.wrap ((j : Int) + 1 - 1) = j := by rw [IntWalk.i64_in _ (by omega)]; omega
            have hw2 : IntKind.i64.wrap (j : Int) = j := IntWalk.i64_in _ (by omega)
            go_region_held3 (fun W => Below wq.heap.size wq W ∧ W.cell? ⟨wr.heap.size, 0, none⟩ = some (.string x.name) ∧ W.cell? ⟨wr.heap.size, 1, none⟩ = some (.int .i64 x.station) ∧ W.cell? ⟨wr.heap.size, 2, none⟩ = some (.int .i64 x.from_) ∧ W.cell? ⟨wr.heap.size, 3, none⟩ = some (.int .i64 x.to_) ∧ W.cell? ⟨wr.heap.size, 4, none⟩ = some (.int .i64 x.quota) ∧ W.cell? ⟨b, off + j * 5, none⟩ = some (.string y.name)) (first | exact ⟨(Below.refl _ _).drew, q0, q1, q2, q3, q4, d0⟩ | (go_split_ands; exact ⟨bnext (by assumption) hb1 (Nat.le_refl _), cell_on hb1 (by assumption), cell_on hb1 (by assumption), cell_on hb1 (by assumption), cell_on hb1 (by assumption), cell_on hb1 (by assumption), cell_on hb1 (by assumption)⟩)) (first | (go_at_call 91; refine (HVC.out _).mono ?_; rintro e w1 ⟨rfl, hb1⟩))
            rename_i hS
            have HF := Lib.hid (bnext HBq.out hS.1 (Nat.le_refl _))
            clear hS hb1 q0 q1 q2 q3 q4 d0 hw hw2
            go_wp2_with fail
            go_roundw
            case rel => exact ⟨j + 1 + 1, by omega, by go_num, HA.out.step (crange_at hlt) HR.out, HF.out⟩
            case measure => simp [intOf]; omega
    · obtain rfl : k = n := by omega
      have HO := Lib.hid (show okCls l = decide (k ≤ 30) by simp only [okCls, hl.out, HA.out.done (by simp)]; simp)
      go_wp2
      go_ret
      exact ⟨ret_bool (by rw [HO.out]; simp; omega), hbel⟩
end Go.Proofs.YtjmlcobbjpmjpaaGreatDoor
namespace Go.Proofs.YtjmlcobbjpmjpaaGreatDoor
open Go.RowKit

def csum (f : Cl → Int) (l : List Cl) : Nat → Int
  | 0 => 0
  | k + 1 => csum f l k + (match l[k]? with | none => 0 | some x => f x)
theorem csum_step {f : Cl → Int} {l : List Cl} {k : Nat} {x : Cl} (h : l[k]? = some x) : csum f l (k + 1) = csum f l k + f x := by simp [csum, h]
theorem csum_bd {f : Cl → Int} {l : List Cl} (h : ∀ x ∈ l, 0 ≤ f x ∧ f x ≤ 1000) (k : Nat) : 0 ≤ csum f l k ∧ csum f l k ≤ 1000 * (k : Int) := by
  induction k with
  | zero => simp [csum]
  | succ k ih =>
    rcases hx : l[k]? with _ | z
    · simp only [csum, hx]; omega
    · simp only [csum, hx]; have := h z (List.mem_of_getElem? hx); omega
theorem okCls_len {l : List Cl} (h : okCls l = true) : l.length ≤ 30 := by
  simp only [okCls, Bool.and_eq_true, decide_eq_true_eq] at h
  exact h.2
theorem okCls_row {l : List Cl} (h : okCls l = true) {i : Nat} (hi : i < l.length) : rowCl l i = true := by
  simp only [okCls, Bool.and_eq_true, List.all_eq_true] at h
  exact h.1 i (by simpa using hi)
theorem okCls_mem {l : List Cl} (h : okCls l = true) : ∀ x ∈ l, isName x.name = true ∧ (0 ≤ x.station ∧ x.station ≤ 9) ∧ (0 ≤ x.from_ ∧ x.from_ ≤ 20000) ∧ (x.from_ + 1 ≤ x.to_ ∧ x.to_ ≤ 20000) ∧ (0 ≤ x.quota ∧ x.quota ≤ 1000) := by
  intro x hx
  obtain ⟨i, hi, rfl⟩ := List.mem_iff_getElem.1 hx
  have := okCls_row h hi
  simp only [rowCl, List.getElem?_eq_getElem hi, Bool.and_eq_true] at this
  exact okCl_iff.1 this.1
theorem okCls_next {l : List Cl} (h : okCls l = true) {i : Nat} {x y : Cl} (hx : l[i]? = some x) (hy : l[i + 1]? = some y) : sless x.name y.name = true := by
  have hi : i + 1 < l.length := (List.getElem?_eq_some_iff.1 hy).1
  have := okCls_row h hi
  simp only [rowCl, hy, Bool.and_eq_true, Bool.or_eq_true, decide_eq_true_eq, Nat.add_sub_cancel, hx] at this
  rcases this.2 with h0 | h0
  · omega
  · exact h0

def active (x : Cl) (d : Int) : Bool := inR d x.from_ (x.to_ - 1)
theorem active_any (x : Cl) (d : Int) (w : World) :
    Calls Tryz.prog 118 #[.agg #[.string x.name, .int .i64 x.station, .int .i64 x.from_, .int .i64 x.to_, .int .i64 x.quota], .int .i64 d] w fun e w' => e = .returned (.bool (active x d)) ∧ Below w.heap.size w w' := by
  by_cases h1 : x.from_ ≤ d
  · by_cases h2 : d < x.to_
    · have HO := Lib.hid (show active x d = true from inR_true.2 (by omega))
      go_enter Tryz.func118, Tryz.ntmps118
      go_wp2
      go_ret
      exact ⟨ret_bool HO.out.symm, (Below.refl _ _).alloc (Nat.le_refl _) _⟩
    · have HO := Lib.hid (show active x d = false by rcases h : active x d with _ | _; (· rfl); (· have := inR_true.1 h; omega))
      have h2' : decide (d < x.to_) = false := decide_eq_false h2
      go_enter Tryz.func118, Tryz.ntmps118
      go_wp2
      go_ret
      exact ⟨ret_bool HO.out.symm, (Below.refl _ _).alloc (Nat.le_refl _) _⟩
  · have HO := Lib.hid (show active x d = false by rcases h : active x d with _ | _; (· rfl); (· have := inR_true.1 h; omega))
    have h1' : decide (x.from_ ≤ d) = false := decide_eq_false h1
    go_enter Tryz.func118, Tryz.ntmps118
    go_wp2
    go_ret
    exact ⟨ret_bool HO.out.symm, (Below.refl _ _).alloc (Nat.le_refl _) _⟩

def quotaf (st d : Int) (x : Cl) : Int := if (x.station == st && active x d) = true then x.quota else 0
def quotaSum (l : List Cl) (st d : Int) : Int := csum (quotaf st d) l l.length
theorem quotaf_bd {l : List Cl} (h : okCls l = true) (st d : Int) : ∀ x ∈ l, 0 ≤ quotaf st d x ∧ quotaf st d x ≤ 1000 := by
  intro x hx
  have := (okCls_mem h x hx).2.2.2.2
  unfold quotaf
  split <;> omega
theorem quotaSum_bd {l : List Cl} (h : okCls l = true) (st d : Int) : 0 ≤ quotaSum l st d ∧ quotaSum l st d ≤ 30000 := by
  have h1 := csum_bd (quotaf_bd h st d) l.length
  have h2 := okCls_len h
  unfold quotaSum
  omega

end Go.Proofs.YtjmlcobbjpmjpaaGreatDoor
namespace Go.Proofs.YtjmlcobbjpmjpaaGreatDoor
open Go.RowKit

/-! ### The order of names -/
theorem bytesLt : ∀ (x y : List UInt8), Op.bytesLess x y = decide (x < y)
  | [], [] => by simp [Op.bytesLess]
  | _ :: _, [] => by simp [Op.bytesLess]
  | [], _ :: _ => by simp [Op.bytesLess]
  | a :: x, b :: y => by
    rw [Op.bytesLess, bytesLt x y]
    simp only [List.cons_lt_cons_iff]
    by_cases h1 : a < b <;> by_cases h2 : a = b <;> by_cases h3 : x < y <;> simp [h1, h2, h3]
theorem sless_trans {a b c : ByteArray} (h : sless a b = true) (k : sless b c = true) : sless a c = true := by
  simp only [sless, bytesLt, decide_eq_true_eq] at *
  exact List.lt_trans h k
theorem sless_ne {a b : ByteArray} (h : sless a b = true) : (a.toList == b.toList) = false := by
  simp only [sless, bytesLt, decide_eq_true_eq] at h
  rw [beq_eq_false_iff_ne]
  intro e
  rw [e] at h
  exact List.lt_irrefl _ h
theorem sless_eq {a b c : ByteArray} (h : sless a b = true) (e : (b.toList == c.toList) = true) : sless a c = true := by
  have e' : b.toList = c.toList := by simpa using e
  simp only [sless] at *
  rw [← e']
  exact h
theorem okCls_up {l : List Cl} (h : okCls l = true) {i : Nat} {x : Cl} (hx : l[i]? = some x) : ∀ (d : Nat) (y : Cl), l[i + 1 + d]? = some y → sless x.name y.name = true := by
  intro d
  induction d with
  | zero => intro y hy; exact okCls_next h hx hy
  | succ d ih =>
    intro y hy
    have hi : i + 1 + d < l.length := by have := (List.getElem?_eq_some_iff.1 hy).1; omega
    exact sless_trans (ih _ (List.getElem?_eq_getElem hi)) (okCls_next h (List.getElem?_eq_getElem hi) hy)
/-- i is where s stands or would stand. -/
def PlaceAt (l : List Cl) (s : ByteArray) (i : Nat) : Prop := i ≤ l.length ∧ ∀ (k : Nat) (x : Cl), l[k]? = some x → (sless x.name s = true ↔ k < i)
def hit (s : ByteArray) (x : Cl) : Bool := x.name.toList == s.toList
def foundAt (l : List Cl) (s : ByteArray) (i : Nat) : Bool := match l[i]? with
  | none => false
  | some x => hit s x
def placeOf (l : List Cl) (s : ByteArray) : Int := idxI (hit s) l
theorem placeAt_found {l : List Cl} {s : ByteArray} {i : Nat} (hp : PlaceAt l s i) (hf : foundAt l s i = true) : placeOf l s = i := by
  unfold foundAt at hf
  rcases hx : l[i]? with _ | x
  · rw [hx] at hf; cases hf
  · rw [hx] at hf
    refine idxI_found hx hf (fun j y hj hy => ?_)
    have := sless_ne ((hp.2 j y hy).2 hj)
    simp [hit, this]
theorem placeAt_lost {l : List Cl} {s : ByteArray} {i : Nat} (hok : okCls l = true) (hp : PlaceAt l s i) (hf : foundAt l s i = false) : placeOf l s = -1 := by
  refine idxI_none (k := l.length) (fun j y hj hy => ?_) rfl
  rcases Nat.lt_trichotomy j i with h | h | h
  · have := sless_ne ((hp.2 j y hy).2 h)
    simp [hit, this]
  · subst h
    simp only [foundAt, hy] at hf
    simp [hf]
  · rcases hh : hit s y with _ | _
    · simp [hh]
    · exfalso
      have hi : i < l.length := by omega
      obtain ⟨d, rfl⟩ : ∃ d, j = i + 1 + d := ⟨j - i - 1, by omega⟩
      have h1 := okCls_up hok (List.getElem?_eq_getElem hi) d y hy
      have h2 := sless_eq h1 hh
      have := (hp.2 i _ (List.getElem?_eq_getElem hi)).1 h2
      omega
theorem placeOf_range {l : List Cl} {s : ByteArray} (h : ¬ placeOf l s < 0) : ∃ i x, placeOf l s = (i : Nat) ∧ l[i]? = some x := by
  unfold placeOf idxI at h ⊢
  rcases hx : l.findIdx? (hit s) with _ | i
  · simp [hx] at h
  · refine ⟨i, l[i]'(by have := (List.findIdx?_eq_some_iff_getElem.1 hx).1; omega), by simp, List.getElem?_eq_getElem _⟩

theorem l24Find_any (A : Option Addr) (n c : Nat) (l : List Cl) (s : ByteArray) (B : Nat) (w : World) (h : Reads w B 5 A n (cls l)) (hn : n ≤ 1048576) :
    Calls Tryz.prog 97 #[.slice A n c, .string s] w fun e w' => e = .returned (.int .i64 (placeOf l s)) ∧ w = w' := by
  have hl := Lib.hid (cls_len h)
  go_enter Tryz.func97, Tryz.ntmps97
  go_wp2
  go_loop [5] (fun i => ∃ k : Nat, k ≤ n ∧ i = .int .i64 k ∧ AllTo (fun x => !hit s x) l k) (fun i => n - (intOf i).toNat)
  case atStart => exact ⟨0, Nat.zero_le _, rfl, AllTo.zero _ _⟩
  case round =>
    obtain ⟨k, hk, rfl, hall⟩ := hrel
    have HA := Lib.hid hall
    clear hall
    by_cases hlt : k < n
    · obtain ⟨x, b, off, he, rfl, hb, c0, c1, c2, c3, c4⟩ := cl_at h hlt
      have HE := Lib.hid he
      clear he h
      rcases hh : (x.name.toList == s.toList) with _ | _
      · go_wp2
        go_round
        case rel => exact ⟨k + 1, by omega, by go_num, HA.out.step HE.out (by simp [hit, hh])⟩
        case measure => simp [intOf]; omega
      · have HO := Lib.hid (show placeOf l s = k from idxI_found HE.out hh HA.out)
        go_wp2
        go_ret
        exact ⟨ret_int HO.out.symm, rfl⟩
    · obtain rfl : k = n := by omega
      have HO := Lib.hid (show placeOf l s = -1 from idxI_none HA.out hl.out)
      go_wp2
      go_ret
      exact ⟨ret_int HO.out.symm, rfl⟩

def cmpS (a b : ByteArray) : Int := if Op.bytesLess a.toList b.toList = true then -1 else if (a.toList == b.toList) = true then 0 else 1
theorem isNaN_any (a : ByteArray) (w : World) : Calls Tryz.prog 183 #[.string a] w fun e w' => e = .returned (.bool false) ∧ w = w' := by
  have h : (a.toList == a.toList) = true := by simp
  go_enter Tryz.func183, Tryz.ntmps183
  go_wp2
  go_ret
  exact ⟨by simp, rfl⟩
theorem cmpCompare_any (a b : ByteArray) (w : World) : Calls Tryz.prog 150 #[.string a, .string b] w fun e w' => e = .returned (.int .i64 (cmpS a b)) ∧ w = w' := by
  rcases h1 : Op.bytesLess a.toList b.toList with _ | _
  · rcases h2 : (a.toList == b.toList) with _ | _
    · have HO := Lib.hid (show cmpS a b = 1 by simp [cmpS, h1, h2])
      go_enter Tryz.func150, Tryz.ntmps150
      go_wp2_with (go_at_call 183; refine (isNaN_any _ _).mono ?_; rintro e w2 ⟨rfl, rfl⟩)
      go_ret
      exact ⟨ret_int HO.out.symm, rfl⟩
    · have HO := Lib.hid (show cmpS a b = 0 by simp [cmpS, h1, h2])
      go_enter Tryz.func150, Tryz.ntmps150
      go_wp2_with (go_at_call 183; refine (isNaN_any _ _).mono ?_; rintro e w2 ⟨rfl, rfl⟩)
      go_ret
      exact ⟨ret_int HO.out.symm, rfl⟩
  · have HO := Lib.hid (show cmpS a b = -1 by simp [cmpS, h1])
    go_enter Tryz.func150, Tryz.ntmps150
    go_wp2_with (go_at_call 183; refine (isNaN_any _ _).mono ?_; rintro e w2 ⟨rfl, rfl⟩)
    go_ret
    exact ⟨ret_int HO.out.symm, rfl⟩
theorem place1_any (x : Cl) (s : ByteArray) (w : World) : Calls Tryz.prog 149 #[.agg #[.string x.name, .int .i64 x.station, .int .i64 x.from_, .int .i64 x.to_, .int .i64 x.quota], .string s] w fun e w' => e = .returned (.int .i64 (cmpS x.name s)) ∧ Below w.heap.size w w' := by
  go_enter Tryz.func149, Tryz.ntmps149
  go_wp2_with (go_at_call 150; refine (cmpCompare_any _ _ _).mono ?_; rintro e w2 ⟨rfl, rfl⟩)
  go_ret
  exact ⟨rfl, (Below.refl _ _).alloc (Nat.le_refl _) _⟩
theorem cmpS_lt {a b : ByteArray} : cmpS a b < 0 ↔ sless a b = true := by
  unfold cmpS sless
  split
  · rename_i h; simp [h]
  · rename_i h; split <;> simp [h]
theorem cmpS_zero {a b : ByteArray} (h : ¬ cmpS a b < 0) : (cmpS a b == 0) = (a.toList == b.toList) := by
  rw [cmpS_lt] at h
  unfold sless at h
  unfold cmpS
  rw [if_neg h]
  rcases (a.toList == b.toList) with _ | _ <;> simp
end Go.Proofs.YtjmlcobbjpmjpaaGreatDoor
namespace Go.Proofs.YtjmlcobbjpmjpaaGreatDoor
open Go.RowKit Go.ChangeShapes Go.WideShapes Go.Deep

structure Bk where
  day : Int
  client : ByteArray
  amount : Int

def Bk.good (x : Bk) : Prop := I64 x.day ∧ x.client.size ≤ 9223372036854775807 ∧ I64 x.amount
def Bk.small (x : Bk) : Prop := x.client.size ≤ 1048576
def cellsBk (x : Bk) : List Value := [.int .i64 x.day, .string x.client, .int .i64 x.amount]
def bkv (x : Bk) : Value := .agg #[.int .i64 x.day, .string x.client, .int .i64 x.amount]
def bks (l : List Bk) : List Value := l.flatMap cellsBk
theorem bks_length (l : List Bk) : (bks l).length = l.length * 3 := flat_length cellsBk 3 (fun _ => rfl) l
theorem bks_get {l : List Bk} {k : Nat} {x : Bk} (h : l[k]? = some x) : (bks l)[k * 3]? = some (.int .i64 x.day) ∧ (bks l)[k * 3 + 1]? = some (.string x.client) ∧ (bks l)[k * 3 + 2]? = some (.int .i64 x.amount) :=
  ⟨flat_get cellsBk 3 (fun _ => rfl) l k x h 0 (by omega), flat_get cellsBk 3 (fun _ => rfl) l k x h 1 (by omega), flat_get cellsBk 3 (fun _ => rfl) l k x h 2 (by omega)⟩
theorem bks_len {w : World} {B n : Nat} {A : Option Addr} {l : List Bk} (h : Reads w B 3 A n (bks l)) : l.length = n := by
  have := h.1
  rw [bks_length] at this
  omega
theorem bk_at {w : World} {B n k : Nat} {A : Option Addr} {l : List Bk} (h : Reads w B 3 A n (bks l)) (hk : k < n) :
    ∃ (x : Bk) (b off : Nat), l[k]? = some x ∧ A = some ⟨b, off, none⟩ ∧ b < B ∧ w.cell? ⟨b, off + k * 3, none⟩ = some (.int .i64 x.day) ∧ w.cell? ⟨b, off + k * 3 + 1, none⟩ = some (.string x.client) ∧ w.cell? ⟨b, off + k * 3 + 2, none⟩ = some (.int .i64 x.amount) := by
  obtain ⟨b, off, rfl, hb, hcell⟩ := h.at_ (by omega)
  have hl := bks_len h
  have he : l[k]? = some l[k] := List.getElem?_eq_getElem (by omega)
  obtain ⟨e0, e1, e2⟩ := bks_get he
  exact ⟨_, b, off, he, rfl, hb, hcell _ _ e0, hcell _ _ e1, hcell _ _ e2⟩

section
variable {H : Type} {enc : TypeId × Value → H} {w : World}
end

theorem make_bk (n : Nat) (hn : n ≤ 1048576) : ∀ w : World, (Instr.makeSlice 24 (.int .i64 (n : Int)) (.int .i64 (n : Int))).run Tryz.prog w = .ok (.slice (some ⟨w.heap.size, 0, none⟩) n n) (w.alloc (.cells (madeCells #[.int .i64 0, .string ⟨#[]⟩, .int .i64 0] (n * 3)) 26)) :=
  run_make_small 24 26 (.agg #[.int .i64 0, .string ⟨#[]⟩, .int .i64 0]) 3 32 Tryz.underlying24 (by kernel_rfl) (by decide) n hn
/-- What the marks from k0 on make of element i. -/
def bkMark (k0 i : Nat) : List Value := [.int .i64 ((k0 : Int) + 3 * (i : Int)), .string (mkText (k0 + 3 * i + 1)), .int .i64 ((k0 : Int) + 3 * (i : Int) + 1 + 1)]
def bkMarks (k0 n : Nat) : List Value := (List.range n).flatMap (bkMark k0)
theorem bkMarks_length (k0 n : Nat) : (bkMarks k0 n).length = n * 3 := by rw [bkMarks, flat_length (bkMark k0) 3 (fun _ => rfl)]; simp
theorem bkMarks_get {k0 n k : Nat} (h : k < n) (j : Nat) (hj : j < 3) : (bkMarks k0 n)[k * 3 + j]? = (bkMark k0 k)[j]? := flat_get (bkMark k0) 3 (fun _ => rfl) (List.range n) k k (by simp [h]) j hj
end Go.Proofs.YtjmlcobbjpmjpaaGreatDoor
namespace Go.Proofs.YtjmlcobbjpmjpaaGreatDoor
open Go.RowKit Go.Lib Go.Sort

def bl (b : ByteArray) : List UInt8 := b.data.toList
def unbl (l : List UInt8) : ByteArray := ⟨l.toArray⟩
theorem unbl_bl (b : ByteArray) : unbl (bl b) = b := by simp [unbl, bl]
theorem bl_unbl (l : List UInt8) : bl (unbl l) = l := by simp [unbl, bl]
theorem bl_inj {a b : ByteArray} (h : bl a = bl b) : a = b := by rw [← unbl_bl a, ← unbl_bl b, h]
theorem encStr_bl (b : ByteArray) : encStr (bl b) = .string b := by simp [encStr, bl]
theorem strs_enc (xs : List ByteArray) : strs xs = (xs.map bl).map encStr := by
  simp only [strs, List.map_map]
  apply List.map_congr_left
  intro b _
  exact (encStr_bl b).symm
theorem strs_unbl (xs : List (List UInt8)) : strs (xs.map unbl) = xs.map encStr := by
  rw [strs_enc, List.map_map, List.map_map]
  apply List.map_congr_left
  intro x _
  simp only [Function.comp, bl_unbl]
theorem sless_bl (a b : ByteArray) : sless a b = true ↔ bl a < bl b := by
  unfold sless bl
  rw [bytesLt, ByteArray.toList_eq, ByteArray.toList_eq, decide_eq_true_eq]
theorem beq_bl (a b : ByteArray) : (a.toList == b.toList) = true ↔ a = b := by
  rw [ByteArray.toList_eq, ByteArray.toList_eq, beq_iff_eq]
  exact ⟨fun h => bl_inj h, fun h => by rw [h]⟩
def SS (xs : List ByteArray) : Prop := xs.Pairwise fun a b => sless a b = true
theorem sless_irr (a : ByteArray) : ¬ sless a a = true := fun h => List.lt_irrefl _ ((sless_bl a a).1 h)
theorem ss_unique : ∀ xs ys : List ByteArray, SS xs → SS ys → (∀ t, t ∈ xs ↔ t ∈ ys) → xs = ys
  | [], [], _, _, _ => rfl
  | [], y :: ys, _, _, h => by have := (h y).2 (by simp); simp at this
  | x :: xs, [], _, _, h => by have := (h x).1 (by simp); simp at this
  | x :: xs, y :: ys, hx, hy, h => by
    have hx' := List.pairwise_cons.1 hx
    have hy' := List.pairwise_cons.1 hy
    have e : x = y := by
      rcases List.mem_cons.1 ((h x).1 (by simp)) with h1 | h1
      · exact h1
      · rcases List.mem_cons.1 ((h y).2 (by simp)) with h2 | h2
        · exact h2.symm
        · exact absurd (sless_trans (hx'.1 y h2) (hy'.1 x h1)) (sless_irr x)
    subst e
    rw [ss_unique xs ys hx'.2 hy'.2 (fun t => ?_)]
    constructor
    · intro ht
      rcases List.mem_cons.1 ((h t).1 (by simp [ht])) with h1 | h1
      · subst h1; exact absurd (hx'.1 t ht) (sless_irr t)
      · exact h1
    · intro ht
      rcases List.mem_cons.1 ((h t).2 (by simp [ht])) with h1 | h1
      · subst h1; exact absurd (hy'.1 t ht) (sless_irr t)
      · exact h1
/-- What is left of a sorted row once runs are struck. -/
theorem compact_inv (d : Array (List UInt8)) (hs : ∀ i j, i ≤ j → j < d.size → d[i]! ≤ d[j]!) : ∀ m, m ≤ d.size → (compactUpTo d m).Pairwise (· < ·) ∧ (∀ x ∈ compactUpTo d m, ∃ j, j < m ∧ x = d[j]!) ∧ (∀ j, j < m → d[j]! ∈ compactUpTo d m)
  | 0, _ => by simp [compactUpTo]
  | m + 1, hm => by
    obtain ⟨h1, h2, h3⟩ := compact_inv d hs m (by omega)
    rw [compactUpTo_succ]
    rcases hk : keeps d m with _ | _
    · have hm0 : 0 < m := by
        rcases Nat.eq_zero_or_pos m with h | h
        · rw [keeps_lt_one d m (by omega)] at hk; cases hk
        · exact h
      have he : d[m]! = d[m - 1]! := by
        apply Decidable.byContradiction
        intro hne
        rw [keeps_pos hne] at hk; cases hk
      simp only [Bool.false_eq_true, if_false, List.append_nil]
      refine ⟨h1, fun x hx => ?_, fun j hj => ?_⟩
      · obtain ⟨j, hj, e⟩ := h2 x hx
        exact ⟨j, by omega, e⟩
      · by_cases e : j = m
        · subst e; rw [he]; exact h3 (j - 1) (by omega)
        · exact h3 j (by omega)
    · simp only [if_true]
      refine ⟨?_, fun x hx => ?_, fun j hj => ?_⟩
      · rw [List.pairwise_append]
        refine ⟨h1, by simp, fun x hx y hy => ?_⟩
        rw [List.mem_singleton] at hy
        subst hy
        obtain ⟨j, hj, rfl⟩ := h2 x hx
        have hne : d[m]! ≠ d[m - 1]! := by
          intro e
          have := keeps_neg (by omega) e
          rw [this] at hk; cases hk
        have a := hs j (m - 1) (by omega) (by omega)
        have b := hs (m - 1) m (by omega) (by omega)
        have c : d[m - 1]! < d[m]! := Std.lt_of_le_of_ne b (fun e => hne e.symm)
        exact List.lt_of_le_of_lt a c
      · rcases List.mem_append.1 hx with hx | hx
        · obtain ⟨j, hj, e⟩ := h2 x hx
          exact ⟨j, by omega, e⟩
        · rw [List.mem_singleton] at hx
          exact ⟨m, by omega, hx⟩
      · by_cases e : j = m
        · subst e; simp
        · exact List.mem_append_left _ (h3 j (by omega))
def sortB (xs : List ByteArray) : List (List UInt8) := (xs.map bl).mergeSort fun x y => decide (x ≤ y)
/-- The names, in ascending order, each once. -/
def uniqB (xs : List ByteArray) : List ByteArray := (compact (sortB xs)).map unbl
theorem sortB_len (xs : List ByteArray) : (sortB xs).length = xs.length := by simp [sortB]
theorem sortB_up (xs : List ByteArray) : ∀ i j, i ≤ j → j < (sortB xs).toArray.size → (sortB xs).toArray[i]! ≤ (sortB xs).toArray[j]! := by
  have hp := List.pairwise_mergeSort (le := fun x y : List UInt8 => decide (x ≤ y)) (fun a b c h1 h2 => by simp at *; exact List.le_trans h1 h2) (fun a b => by
    simp only [Bool.or_eq_true, decide_eq_true_eq]
    exact Std.le_total) (xs.map bl)
  intro i j hij hj
  have hj' : j < (sortB xs).length := by simpa using hj
  rw [getElem!_pos _ i (by simp; omega), getElem!_pos _ j hj]
  simp only [List.getElem_toArray]
  by_cases e : i = j
  · subst e; exact Std.le_refl _
  · have := List.pairwise_iff_getElem.1 hp i j (by have := hj'; unfold sortB at this; omega) hj' (by omega)
    exact of_decide_eq_true this
theorem uniqB_facts (xs : List ByteArray) : SS (uniqB xs) ∧ (∀ t, t ∈ uniqB xs ↔ t ∈ xs) ∧ (uniqB xs).length ≤ xs.length := by
  obtain ⟨h1, h2, h3⟩ := compact_inv (sortB xs).toArray (sortB_up xs) (sortB xs).length (by simp)
  have hmem : ∀ x, x ∈ sortB xs ↔ x ∈ xs.map bl := fun x => (List.mergeSort_perm _ _).mem_iff
  refine ⟨?_, fun t => ?_, ?_⟩
  · unfold SS uniqB compact
    rw [List.pairwise_map]
    exact h1.imp fun h => (sless_bl _ _).2 (by rw [bl_unbl, bl_unbl]; exact h)
  · unfold uniqB compact
    rw [List.mem_map]
    constructor
    · rintro ⟨x, hx, rfl⟩
      obtain ⟨j, hj, rfl⟩ := h2 x hx
      rw [getElem!_pos _ j (by simpa using hj)]
      have : (sortB xs).toArray[j]'(by simpa using hj) ∈ sortB xs := by simp
      obtain ⟨b, hb, e⟩ := List.mem_map.1 ((hmem _).1 this)
      rw [← e, unbl_bl]; exact hb
    · intro ht
      have : bl t ∈ sortB xs := (hmem _).2 (List.mem_map.2 ⟨t, ht, rfl⟩)
      obtain ⟨j, hj, e⟩ := List.mem_iff_getElem.1 this
      refine ⟨bl t, ?_, unbl_bl t⟩
      have h4 := h3 j hj
      rw [getElem!_pos _ j (by simpa using hj)] at h4
      simpa [e] using h4
  · unfold uniqB compact compactUpTo
    rw [List.length_map, List.length_map]
    have := List.length_filter_le (keeps (sortB xs).toArray) (List.range (sortB xs).length)
    simp only [List.length_range, sortB_len, List.size_toArray] at this ⊢
    exact this
theorem uniqB_of {xs ys : List ByteArray} (h1 : SS ys) (h2 : ∀ t, t ∈ ys ↔ t ∈ xs) : ys = uniqB xs := by
  obtain ⟨a, b, _⟩ := uniqB_facts xs
  exact ss_unique _ _ h1 a (fun t => by rw [h2, b])
def namesB (l : List Bk) : List ByteArray := uniqB (l.map (·.client))
def bookedF (l : List Bk) (ok : Bool) : List ByteArray × Int := if ok = true then (namesB l, 0) else ([], 1)
end Go.Proofs.YtjmlcobbjpmjpaaGreatDoor
