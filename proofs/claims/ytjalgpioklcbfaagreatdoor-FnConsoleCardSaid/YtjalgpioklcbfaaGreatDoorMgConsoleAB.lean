/- One element appended, block by block. No function of the program in sight. Tube values: their cells, lists of them, the law's copies, sizes, comparisons and marks. The source that the draws read from: a struct in memory, its code elsewhere. Slices of strings: the law's comparisons, marks and their reading. Sums of numbers, in the reference and in the program. The source's methods: next, pick, one, among, text; each turns the source alone. Cells copied within memory of the call's own; an element put into a row. Client values: their cells, lists of them, the law's copies, sizes, comparisons and marks. Entry values: their cells, lists of them, the law's copies, sizes, comparisons and marks. One element appended to a slice of the call's own, at whatever place of the walk. Two lists compared element by element; numbers and tubes: sizes, copies, comparisons. -/
import Derived.Test.YtjalgpioklcbfaaGreatDoorMgConsoleAA
import Derived.Test.YtjalgpioklcbfaaGreatDoorProg
import Derived.Test.YtjalgpioklcbfaaGreatDoorKMem
import Derived.Deep.RegionHeld3
import Derived.BigQuiet
import Derived.Laws.Bits64b
import Derived.Deep.QuietTactic
import Derived.Laws.CopyRow
import Derived.Laws.CopyOwn
import Derived.Lib.AppendZerosOnto
import Derived.Lib.Overlaps
import Derived.Lib.JoinLaws
import Derived.Laws.StructEq
set_option linter.unusedVariables false
set_option linter.unusedSimpArgs false
namespace Go.Proofs.YtjalgpioklcbfaaGreatDoor
open Go.RowKit

theorem Sl.nn {w : World} {lo hi size n c : Nat} {t : TypeId} {A : Option Addr} {xs : List Value} (h : Sl w lo hi t size A n c xs) (hn : 0 < n) : A ≠ none := by
  obtain ⟨g, rfl, _⟩ := h.lt hn
  simp
/-- One element appended: what stands, block by block. -/
theorem wp_oneF {P : Program} {o : Oper} {a : Act} {Q : Exit → Act → World → Prop} {K : Act → World → Prop} (s x : Operand) (t : TypeId)
    (ho : o.op = .call { callee := .builtin .append, args := #[s, x], argTypes := #[t, t] })
    (e : TypeId) (zv : Value) (size bytes : Nat) (ht : P.underlying t = some (.slice e)) (hinfo : (P.info? e).map (fun i => (i.zero, i.size, i.bytes)) = some (some zv, size, bytes)) (hzs : zv.cells.size = size) (hsz : 0 < size) (hb : bytes ≤ 1000)
    {lo hi : Nat} {wr : World} {A : Option Addr} {m c : Nat} {xs : List Value} (h : Sl wr lo hi e size A m c xs) (hlo : lo ≤ wr.heap.size) (hs : a.eval s = .slice A m c)
    (news : List Value) (hd : Nat) (hhd : hd = wr.heap.size) (hx : a.eval x = .slice (some ⟨hd, 0, none⟩) 1 1) (hl : news.length = size) (h1 : ∀ u ∈ news, u.oneCell' = true) (hm : m < 100000000)
    (HK : ∀ A' c' w1, Sl w1 lo w1.heap.size e size A' (m + 1) c' (xs ++ news) → Below lo wr w1 → wr.heap.size + 1 ≤ w1.heap.size → (∀ g, g < wr.heap.size → (∀ ad, A = some ad → ad.block ≠ g) → w1.heap[g]? = wr.heap[g]?) → (∀ g, g < wr.heap.size → (∀ ad, A = some ad → ad.block ≠ g) → ∀ ad, A' = some ad → ad.block ≠ g) → K (a.put o.dst (.slice A' (m + 1) c')) w1) : o.wp P a (wr.alloc (.cells news.toArray e)) K Q := by
  subst hhd
  obtain ⟨i, hi', hz, hsize, hby⟩ := info_parts hinfo
  have hAb : ∀ ad, A = some ad → lo ≤ ad.block := fun ad had => by
    rcases h.form with ⟨h0, _⟩ | ⟨g, cur, hg, h2, _⟩
    · rw [h0] at had; cases had
    · rw [hg] at had; injection had with had; subst had; exact h2
  have hown : (wr.alloc (.cells news.toArray e)).ownsRow lo e size (.slice A m c) m xs := h.1.alloc _
  obtain ⟨v', w', hr, h2, h3, h4, h5⟩ := run_append_own_at (P := P) (wr.alloc (.cells news.toArray e)) lo t o.type e i zv size bytes ht hi' hz hsize hby hzs hsz _ m xs hown ⟨wr.heap.size, 0, none⟩ 1 1 news (by omega) (news_at wr news e) h1 (by unfold maxLen; omega) (by
    calc (m + 1) * bytes ≤ 100000000 * 1000 := Nat.mul_le_mul (by omega) hb
      _ ≤ 140737488355328 := by decide) (by simp; omega)
  unfold Oper.wp execOp
  simp only [ho, resolve, invoke, builtin, Sem.run_bind, Sem.run_pure, Result.andThen_ok, List.map_toArray, List.map_cons, List.map_nil, hs, hx, hr]
  have hfr : ∀ g, g < wr.heap.size → (∀ ad, A = some ad → ad.block ≠ g) → w'.heap[g]? = wr.heap[g]? := fun k hk hne => by
    rw [h3.block k (by simp; omega) (fun ee => ?_), Below.heap_alloc wr _ k (by omega)]
    cases A with
    | none => simp [Value.ownBlock] at ee
    | some ad =>
      simp [Value.ownBlock] at ee
      exact hne ad rfl ee.symm
  have hsz2 : wr.heap.size + 1 ≤ w'.heap.size := by have := h3.size; simpa using this
  have hbel : Below lo wr w' := by
    refine ⟨h3.os, h3.tape, h3.output, by omega, fun k hk => hfr k (by omega) (fun ad had => by have := hAb ad had; omega)⟩
  rcases h2.2 with ⟨hv, hn⟩ | ⟨g, cap, cur, hv, hb', hgg, hrest'⟩
  · omega
  · subst hv
    refine HK _ _ _ ⟨h2, fun ad had => by injection had with had; subst had; exact (Array.getElem?_eq_some_iff.1 hgg).1⟩ hbel hsz2 hfr (fun g' hg' hne ad had => ?_)
    injection had with had
    subst had
    rcases h5 with h5 | h5
    · cases A with
      | none => simp [Value.ownBlock] at h5
      | some ad =>
        simp [Value.ownBlock] at h5
        have := hne ad rfl
        simp; omega
    · simp [Value.ownBlock] at h5
      simp; omega
theorem wpList_oneF {P : Program} {ops : Array Oper} {rest : List Oper} {o : Oper} {a : Act} {Q : Exit → Act → World → Prop} (hgd : o.guard = none) (s x : Operand) (t : TypeId)
    (ho : o.op = .call { callee := .builtin .append, args := #[s, x], argTypes := #[t, t] })
    (e : TypeId) (zv : Value) (size bytes : Nat) (ht : P.underlying t = some (.slice e)) (hinfo : (P.info? e).map (fun i => (i.zero, i.size, i.bytes)) = some (some zv, size, bytes)) (hzs : zv.cells.size = size) (hsz : 0 < size) (hb : bytes ≤ 1000)
    {lo hi : Nat} {wr : World} {A : Option Addr} {m c : Nat} {xs : List Value} (h : Sl wr lo hi e size A m c xs) (hlo : lo ≤ wr.heap.size) (hs : a.eval s = .slice A m c)
    (news : List Value) (hd : Nat) (hhd : hd = wr.heap.size) (hx : a.eval x = .slice (some ⟨hd, 0, none⟩) 1 1) (hl : news.length = size) (h1 : ∀ u ∈ news, u.oneCell' = true) (hm : m < 100000000)
    (HK : ∀ A' c' w1, Sl w1 lo w1.heap.size e size A' (m + 1) c' (xs ++ news) → Below lo wr w1 → wr.heap.size + 1 ≤ w1.heap.size → (∀ g, g < wr.heap.size → (∀ ad, A = some ad → ad.block ≠ g) → w1.heap[g]? = wr.heap[g]?) → (∀ g, g < wr.heap.size → (∀ ad, A = some ad → ad.block ≠ g) → ∀ ad, A' = some ad → ad.block ≠ g) → wpList P ops Q rest (a.put o.dst (.slice A' (m + 1) c')) w1) : wpList P ops Q (o :: rest) a (wr.alloc (.cells news.toArray e)) := by
  have hw : Region.wanted o (yielded ops a.tmps) = true := by simp [Region.wanted, hgd]
  unfold wpList
  rw [if_pos hw]
  refine Or.inl ?_
  exact wp_oneF s x t ho e zv size bytes ht hinfo hzs hsz hb h hlo hs news hd hhd hx hl h1 hm HK

end Go.Proofs.YtjalgpioklcbfaaGreatDoor
namespace Go.Proofs.YtjalgpioklcbfaaGreatDoor
open Go.RowKit Go.ChangeShapes Go.WideShapes Go.Deep

structure Tb where
  from_ : Int
  to_ : Int
  len : Int

def Tb.good (x : Tb) : Prop := I64 x.from_ ∧ I64 x.to_ ∧ I64 x.len
def cellsTb (x : Tb) : List Value := [.int .i64 x.from_, .int .i64 x.to_, .int .i64 x.len]
def tbs (l : List Tb) : List Value := l.flatMap cellsTb
theorem tbs_length (l : List Tb) : (tbs l).length = l.length * 3 := flat_length cellsTb 3 (fun _ => rfl) l
theorem tbs_get {l : List Tb} {k : Nat} {x : Tb} (h : l[k]? = some x) : (tbs l)[k * 3]? = some (.int .i64 x.from_) ∧ (tbs l)[k * 3 + 1]? = some (.int .i64 x.to_) ∧ (tbs l)[k * 3 + 2]? = some (.int .i64 x.len) :=
  ⟨flat_get cellsTb 3 (fun _ => rfl) l k x h 0 (by omega), flat_get cellsTb 3 (fun _ => rfl) l k x h 1 (by omega), flat_get cellsTb 3 (fun _ => rfl) l k x h 2 (by omega)⟩
theorem tbs_len {w : World} {B n : Nat} {A : Option Addr} {l : List Tb} (h : Reads w B 3 A n (tbs l)) : l.length = n := by
  have := h.1
  rw [tbs_length] at this
  omega
theorem tb_at {w : World} {B n k : Nat} {A : Option Addr} {l : List Tb} (h : Reads w B 3 A n (tbs l)) (hk : k < n) :
    ∃ (x : Tb) (b off : Nat), l[k]? = some x ∧ A = some ⟨b, off, none⟩ ∧ b < B ∧ w.cell? ⟨b, off + k * 3, none⟩ = some (.int .i64 x.from_) ∧ w.cell? ⟨b, off + k * 3 + 1, none⟩ = some (.int .i64 x.to_) ∧ w.cell? ⟨b, off + k * 3 + 2, none⟩ = some (.int .i64 x.len) := by
  obtain ⟨b, off, rfl, hb, hcell⟩ := h.at_ (by omega)
  have hl := tbs_len h
  have he : l[k]? = some l[k] := List.getElem?_eq_getElem (by omega)
  obtain ⟨e0, e1, e2⟩ := tbs_get he
  exact ⟨_, b, off, he, rfl, hb, hcell _ _ e0, hcell _ _ e1, hcell _ _ e2⟩

section
variable {H : Type} {enc : TypeId × Value → H} {w : World}
end

end Go.Proofs.YtjalgpioklcbfaaGreatDoor
namespace Go.Proofs.YtjalgpioklcbfaaGreatDoor
open Go.RowKit Go.ChangeShapes Go.WideShapes Go.Deep

def byts (l : List Int) : List Value := l.map (.int .u8)
theorem byts_length (l : List Int) : (byts l).length = l.length := by simp [byts]
theorem byts_get {l : List Int} {i : Nat} {x : Int} (h : l[i]? = some x) : (byts l)[i]? = some (.int .u8 x) := by simp [byts, h]
def Byt (x : Int) : Prop := 0 ≤ x ∧ x ≤ 255
theorem byts_flat (l : List Int) : l.flatMap (fun x => [Value.int .u8 x]) = byts l := by
  induction l with
  | nil => rfl
  | cons a l ih => simp [byts] at ih ⊢; exact ih
section
variable {H : Type} {enc : TypeId × Value → H} {w : World}
theorem open_code {d : DataW H} {p : List MemPlace} {A : Option Addr} {len cap : Nat} (h : DataW.Trod enc Tryz.prog w 0 (fun _ => true) true 22 (.slice A len cap) d p) :
    ∃ l : List Int, len ≤ 9223372036854775807 ∧ Reads w w.heap.size 1 A len (byts l) ∧ ∀ x ∈ l, Byt x := by
  obtain ⟨fuel, hf⟩ := h
  obtain ⟨A', len', cap', l, hcs, hn, hr, hg⟩ := open_list (fun x : Int => [Value.int .u8 x]) 1 Byt (fun _ => rfl) Tryz.underlying22 (by kernel_rfl) (by omega) (fun n cs' y hl ht => by
    obtain ⟨v, rfl⟩ := List.length_eq_one_iff.1 hl
    obtain ⟨x0, rfl, hw⟩ := field_int Tryz.underlying5 ht
    exact ⟨x0, rfl, bounds_u8 hw⟩) hf
  simp [Value.cells] at hcs
  obtain ⟨rfl, rfl, rfl⟩ := hcs
  rw [byts_flat] at hr
  exact ⟨l, hn, hr, hg⟩
end

/-- The source lies in block g; it has been asked at most k times; its code lies below it. -/
def Src (g k : Nat) (w : World) : Prop :=
  ∃ (A : Option Addr) (n c : Nat) (bs : List Int) (a : Nat) (sd : Int), Blk w g 94 #[.slice A n c, .int .i64 (a : Int), .int .u64 sd] ∧ Reads w g 1 A n (byts bs) ∧ a ≤ k ∧ (∀ x ∈ bs, Byt x) ∧ n ≤ 9223372036854775807 ∧ 0 ≤ sd ∧ sd ≤ 18446744073709551615
section
variable {g k k' lo hi : Nat} {w w' : World}
theorem Src.lt (h : Src g k w) : g < w.heap.size := by obtain ⟨_, _, _, _, _, _, h, _⟩ := h; exact h.lt
theorem Src.keep (h : Src g k w) (hk : ∀ i, i < g + 1 → w'.heap[i]? = w.heap[i]?) : Src g k w' := by
  obtain ⟨A, n, c, bs, a, sd, h1, h2, h3⟩ := h
  exact ⟨A, n, c, bs, a, sd, (hk g (by omega)).trans h1, h2.keep fun p hp => World.cell?_of_block (hk p.block (by omega)), h3⟩
theorem Src.on (h : Src g k w) (hb : Below w.heap.size w w') : Src g k w' := h.keep fun i hi => hb.block i (by have := h.lt; omega)
theorem Src.below {B : Nat} (h : Src g k w) (hb : Below B w w') (hg : g < B) : Src g k w' := h.keep fun i hi => hb.block i (by omega)
theorem Src.apart (h : Src g k w) (ho : Only lo hi w w') (hg : g < lo) : Src g k w' := h.keep fun i hi => ho.block i (by have := h.lt; omega) (by omega)
theorem Src.more (h : Src g k w) (hk : k ≤ k') : Src g k' w := by
  obtain ⟨A, n, c, bs, a, sd, h1, h2, h3, h4⟩ := h
  exact ⟨A, n, c, bs, a, sd, h1, h2, by omega, h4⟩
theorem Src.alloc (h : Src g k w) (o : Obj) : Src g k (w.alloc o) := h.keep fun i hi => Below.heap_alloc w o i (by have := h.lt; omega)
theorem Src.set_ (h : Src g k w) {p : Addr} (hp : g < p.block) (u : Value) : Src g k (w.setCell p u) := h.keep fun i hi => Below.heap_setCell w p u i (by omega)
end
/-- A cell of a block that is younger. -/
theorem Only.far {lo hi : Nat} {a w : World} (h : Only lo hi a w) {p : Addr} (hp : a.heap.size ≤ p.block) (u : Value) : Only lo hi a (w.setCell p u) :=
  ⟨h.os, h.tape, h.output, by simpa [World.setCell] using h.size, fun i hi' hd => (Below.heap_setCell w p u i (by omega)).trans (h.block i hi' hd)⟩
theorem Only.then {lo hi B : Nat} {a w w' : World} (h : Only lo hi a w) (hb : Below B w w') (hB : a.heap.size ≤ B) : Only lo hi a w' :=
  ⟨hb.os.trans h.os, hb.tape.trans h.tape, hb.output.trans h.output, Nat.le_trans h.size hb.size, fun i hi' hd => (hb.block i (by omega)).trans (h.block i hi' hd)⟩
theorem src_new {w : World} {A : Option Addr} {n c : Nat} {bs : List Int} (h : Reads w w.heap.size 1 A n (byts bs)) (hb : ∀ x ∈ bs, Byt x) (hn : n ≤ 9223372036854775807) :
    Src w.heap.size 0 (w.alloc (.cells #[.slice A n c, .int .i64 0, .int .u64 0] 94)) :=
  ⟨A, n, c, bs, 0, 0, Blk.new w _ _, h.on (Nat.le_refl _) ((Below.refl _ _).alloc (Nat.le_refl _) _), Nat.le_refl _, hb, hn, by omega, by omega⟩
/-- What a pick of n numbers may be. -/
def PickR (n x : Int) : Prop := 0 ≤ x ∧ (n ≤ 1 → x = 0) ∧ (1 < n → x < n) ∧ x ≤ 65535
theorem PickR.lt {n x : Int} (h : PickR n x) (hn : 0 < n) : x < n := by
  rcases Int.lt_or_le 1 n with h1 | h1
  · exact h.2.2.1 h1
  · have := h.2.1 h1; omega
theorem pickR_mod {n y : Int} (h0 : 0 ≤ y) (h1 : y ≤ 65535) (hn : 1 < n) : PickR n (y % n) := by
  have a := Int.emod_nonneg y (show n ≠ 0 by omega)
  have b := Int.emod_lt_of_pos y (show 0 < n by omega)
  refine ⟨a, by omega, fun _ => b, ?_⟩
  rcases Int.lt_or_le y n with h | h
  · rw [Int.emod_eq_of_lt h0 h]; exact h1
  · omega
end Go.Proofs.YtjalgpioklcbfaaGreatDoor
namespace Go.Proofs.YtjalgpioklcbfaaGreatDoor
open Go.RowKit

theorem str_at {w : World} {B n k : Nat} {A : Option Addr} {l : List ByteArray} (h : Reads w B 1 A n (strs l)) (hk : k < n) :
    ∃ (x : ByteArray) (b off : Nat), l[k]? = some x ∧ A = some ⟨b, off, none⟩ ∧ b < B ∧ w.cell? ⟨b, off + k, none⟩ = some (.string x) := by
  obtain ⟨b, off, rfl, hb, hcell⟩ := h.at_ (by omega)
  have hl := h.1
  rw [strs_length] at hl
  have he : l[k]? = some l[k] := List.getElem?_eq_getElem (by omega)
  exact ⟨_, b, off, he, rfl, hb, hcell _ _ (strs_get he)⟩
theorem strs_len {w : World} {B n : Nat} {A : Option Addr} {l : List ByteArray} (h : Reads w B 1 A n (strs l)) : l.length = n := by
  have := h.1
  rw [strs_length] at this
  omega
end Go.Proofs.YtjalgpioklcbfaaGreatDoor
namespace Go.Proofs.YtjalgpioklcbfaaGreatDoor
open Go.RowKit

def sumTo (xs : List Int) : Nat → Int
  | 0 => 0
  | k + 1 => sumTo xs k + xs.getD k 0
theorem sumTo_step {xs : List Int} {k : Nat} {x : Int} (h : xs[k]? = some x) : sumTo xs (k + 1) = sumTo xs k + x := by simp [sumTo, List.getD, h]
theorem sumTo_bd {xs : List Int} {b : Int} (hb : 0 ≤ b) (h : ∀ x ∈ xs, -b ≤ x ∧ x ≤ b) (k : Nat) : -(b * k) ≤ sumTo xs k ∧ sumTo xs k ≤ b * k := by
  induction k with
  | zero => simp [sumTo]
  | succ k ih =>
    have h1 : -b ≤ xs.getD k 0 ∧ xs.getD k 0 ≤ b := by
      rcases hx : xs[k]? with _ | z
      · simp [List.getD, hx]; omega
      · simp only [List.getD, hx, Option.getD_some]; exact h z (List.mem_of_getElem? hx)
    rw [sumTo, Int.natCast_succ, Int.mul_add, Int.mul_one]
    generalize b * (k : Int) = t at ih ⊢
    omega
theorem sumOf_any (A : Option Addr) (n c B : Nat) (xs : List Int) (w : World) (h : Reads w B 1 A n (ints xs)) (hn : n ≤ 1048576) (hb : ∀ x ∈ xs, -1000000000000 ≤ x ∧ x ≤ 1000000000000) :
    Calls Tryz.prog 93 #[.slice A n c] w fun e w' => e = .returned (.int .i64 (sumTo xs n)) ∧ w = w' := by
  have HB := Lib.hid hb
  clear hb
  go_enter Tryz.func93, Tryz.ntmps93
  go_wp2
  go_loop [3, 8] (fun s i => ∃ k : Nat, k ≤ n ∧ i = .int .i64 k ∧ s = .int .i64 (sumTo xs k)) (fun _ i => n - (RowKit.intOf i).toNat)
  case atStart => exact ⟨0, Nat.zero_le _, rfl, rfl⟩
  case round =>
    obtain ⟨k, hk, rfl, rfl⟩ := hrel
    by_cases hlt : k < n
    · obtain ⟨x, b, off, he, rfl, hb, c0⟩ := int_at h hlt
      have hx := HB.out x (List.mem_of_getElem? he)
      have hs := sumTo_bd (by omega) HB.out k
      have HS := Lib.hid (sumTo_step he)
      clear he h
      generalize sumTo xs k = s at *
      go_wp2
      go_round
      case rel => exact ⟨k + 1, by omega, by go_num, by rw [HS.out]⟩
      case measure => simp [RowKit.intOf]; omega
    · obtain rfl : k = n := by omega
      go_wp2
      go_ret
      exact ⟨rfl, rfl⟩

end Go.Proofs.YtjalgpioklcbfaaGreatDoor
namespace Go.Proofs.YtjalgpioklcbfaaGreatDoor
open Go.RowKit

theorem byt_at {w : World} {B n k : Nat} {A : Option Addr} {l : List Int} (h : Reads w B 1 A n (byts l)) (hk : k < n) :
    ∃ (x : Int) (b off : Nat), l[k]? = some x ∧ A = some ⟨b, off, none⟩ ∧ b < B ∧ w.cell? ⟨b, off + k, none⟩ = some (.int .u8 x) := by
  obtain ⟨b, off, rfl, hb, hcell⟩ := h.at_ (by omega)
  have hl := h.1
  rw [byts_length] at hl
  have he : l[k]? = some l[k] := List.getElem?_eq_getElem (by omega)
  exact ⟨_, b, off, he, rfl, hb, hcell _ _ (byts_get he)⟩

theorem wrap_u64_le (n : Int) : IntKind.u64.wrap n ≤ 18446744073709551615 := by rw [IntKind.wrap_u64]; omega
theorem wrap_u64_ge (n : Int) : 0 ≤ IntKind.u64.wrap n := by rw [IntKind.wrap_u64]; omega
theorem byt_bits {s : Int} (h0 : 0 ≤ s) (h1 : s ≤ 18446744073709551615) : Byt (wrap64 (bits BinOp.and IntKind.u64 (s / 1099511627776) 255)) := by
  obtain ⟨q, hq⟩ := Int.eq_ofNat_of_zero_le (show 0 ≤ s / 1099511627776 by omega)
  rw [hq]
  have e : bits BinOp.and IntKind.u64 (q : Int) 255 = ((q &&& 255 : Nat) : Int) := bits_and_u64_nat q 255 (by omega) (by omega)
  rw [e]
  have hle : q &&& 255 ≤ 255 := Nat.and_le_right
  generalize q &&& 255 = y at hle ⊢
  have : wrap64 (y : Int) = y := by simp only [wrap64]; omega
  rw [this]
  unfold Byt
  omega
/-- The source behind one question more. -/
theorem src_set {g k n c a : Nat} {A : Option Addr} {bs : List Int} {sd sd2 : Int} {w : World} (hb : Blk w g 94 #[.slice A n c, .int .i64 (a : Int), .int .u64 sd]) (hr : Reads w g 1 A n (byts bs)) (hby : ∀ x ∈ bs, Byt x) (ha : a ≤ k) (hn : n ≤ 9223372036854775807) (h0 : 0 ≤ sd2) (h1 : sd2 ≤ 18446744073709551615) (m m2 : Nat) :
    Src g (k + 1) ((((w.drewN m).setCell ⟨g, 1, none⟩ (.int .i64 ((a : Int) + 1))).setCell ⟨g, 2, none⟩ (.int .u64 sd2)).drewN m2) ∧ Only g (g + 1) w ((((w.drewN m).setCell ⟨g, 1, none⟩ (.int .i64 ((a : Int) + 1))).setCell ⟨g, 2, none⟩ (.int .u64 sd2)).drewN m2) := by
  have ho : Only g (g + 1) w ((((w.drewN m).setCell ⟨g, 1, none⟩ (.int .i64 ((a : Int) + 1))).setCell ⟨g, 2, none⟩ (.int .u64 sd2)).drewN m2) := ((((Only.refl g (g + 1) w).drewN m).setCell (p := ⟨g, 1, none⟩) (Nat.le_refl g) (Nat.lt_succ_self g) _).setCell (p := ⟨g, 2, none⟩) (Nat.le_refl g) (Nat.lt_succ_self g) _).drewN m2
  refine ⟨⟨A, n, c, bs, a + 1, sd2, ?_, hr.keep fun p hp => World.cell?_of_block (ho.block p.block (by have := hb.lt; omega) (by omega)), by omega, hby, hn, h0, h1⟩, ho⟩
  have := (((hb.drewN m).set_ 1 (.int .i64 ((a : Int) + 1))).set_ 2 (.int .u64 sd2)).drewN m2
  simpa using this
theorem l00From_any (A : Option Addr) (n c : Nat) (bs : List Int) (w : World) (h : Reads w w.heap.size 1 A n (byts bs)) (hb : ∀ x ∈ bs, Byt x) (hn : n ≤ 9223372036854775807) :
    Calls Tryz.prog 23 #[.slice A n c] w fun e w' => e = .returned (.pointer (some ⟨w.heap.size, 0, none⟩)) ∧ Src w.heap.size 0 w' ∧ Below w.heap.size w w' ∧ w.heap.size < w'.heap.size := by
  have HS := Lib.hid (src_new (c := c) h hb hn)
  clear h hb
  go_enter Tryz.func23, Tryz.ntmps23
  go_wp2
  go_ret
  exact ⟨rfl, HS.out, (Below.refl _ _).alloc (Nat.le_refl _) _, by simp⟩

set_option maxRecDepth 100000 in
theorem next_any (g k : Nat) (w : World) (h : Src g k w) (hk : k ≤ 1000000000000) :
    Calls Tryz.prog 62 #[.pointer (some ⟨g, 0, none⟩)] w fun e w' => ∃ x : Int, e = .returned (.int .i64 x) ∧ Byt x ∧ Src g (k + 1) w' ∧ Only g (g + 1) w w' := by
  obtain ⟨A, n, c, bs, a, sd, hb, hr, ha, hby, hn, hs0, hs1⟩ := h
  have q0 : w.cell? ⟨g, 0, none⟩ = some (.slice A n c) := hb.cellAt 0 (by simp)
  have q1 : w.cell? ⟨g, 1, none⟩ = some (.int .i64 (a : Int)) := hb.cellAt 1 (by simp)
  have q2 : w.cell? ⟨g, 2, none⟩ = some (.int .u64 sd) := hb.cellAt 2 (by simp)
  have f1 := hb.frozen 1
  have f2 := hb.frozen 2
  have HB := Lib.hid hb
  have HR := Lib.hid hr
  have HY := Lib.hid hby
  clear hb hby
  by_cases hlt : a < n
  · obtain ⟨x, b, off, hx, rfl, hbl, c0⟩ := byt_at hr hlt
    have hxb := HY.out x (List.mem_of_getElem? hx)
    unfold Byt at hxb
    have hne : ¬ b = g := by omega
    clear hx hr
    go_enter Tryz.func62, Tryz.ntmps62
    go_wp2_with fail
    go_quiet (fail)
    go_wp2_with fail
    go_quiet (fail)
    go_wp2_with fail
    generalize hsd : IntKind.u64.wrap (IntKind.u64.wrap (IntKind.u64.wrap (sd * 6364136223846793005) + x) + 1442695040888963407) = sd2
    have hsd0 : 0 ≤ sd2 := by rw [← hsd]; exact wrap_u64_ge _
    have hsd1 : sd2 ≤ 18446744073709551615 := by rw [← hsd]; exact wrap_u64_le _
    clear hsd
    have HW := Lib.hid (fun m m2 => src_set (A := some ⟨b, off, none⟩) (n := n) (c := c) (a := a) (sd2 := sd2) HB.out HR.out HY.out ha hn hsd0 hsd1 m m2)
    go_quiet (fail)
    go_wp2
    go_ret
    exact ⟨x, rfl, hxb, (HW.out _ _).1, (HW.out _ _).2⟩
  · have hlt' : decide ((a : Int) < n) = false := by simp; omega
    clear hr
    go_enter Tryz.func62, Tryz.ntmps62
    go_wp2_with fail
    go_quiet (fail)
    go_wp2_with fail
    generalize hsd : IntKind.u64.wrap (IntKind.u64.wrap (IntKind.u64.wrap (sd * 6364136223846793005)) + 1442695040888963407) = sd2
    have hsd0 : 0 ≤ sd2 := by rw [← hsd]; exact wrap_u64_ge _
    have hsd1 : sd2 ≤ 18446744073709551615 := by rw [← hsd]; exact wrap_u64_le _
    clear hsd
    have HW := Lib.hid (fun m m2 => src_set (A := A) (n := n) (c := c) (a := a) (sd2 := sd2) HB.out HR.out HY.out ha hn hsd0 hsd1 m m2)
    have hl2 : decide ((a : Int) + 1 ≤ n) = false := by simp; omega
    go_quiet (fail)
    go_wp2_with fail
    go_ret
    refine ⟨_, rfl, ?_, (HW.out _ _).1, (HW.out _ _).2⟩
    exact byt_bits hsd0 hsd1

/-- A number that is picked. -/
theorem pick_any (g k : Nat) (n : Int) (w : World) (h : Src g k w) (hk : k ≤ 100000000000) (hn : I64 n) :
    Calls Tryz.prog 24 #[.pointer (some ⟨g, 0, none⟩), .int .i64 n] w fun e w' => ∃ x : Int, e = .returned (.int .i64 x) ∧ PickR n x ∧ Src g (k + 2) w' ∧ Only g (g + 1) w w' := by
  have HS := Lib.hid h
  unfold I64 at hn
  by_cases h1 : n ≤ 1
  · have hp : PickR n 0 := ⟨by omega, fun _ => rfl, fun h => by omega, by omega⟩
    have HP := Lib.hid hp
    clear h hp
    go_enter Tryz.func24, Tryz.ntmps24
    go_wp2
    go_ret
    exact ⟨0, rfl, HP.out, HS.out.more (by omega), Only.refl _ _ _⟩
  · have h1' : decide (n ≤ 1) = false := by simp; omega
    have hn0 : ¬ n = 0 := by omega
    by_cases h2 : 200 < n
    · go_enter Tryz.func24, Tryz.ntmps24
      go_wp2_with fail
      refine (next_any g k _ h (by omega)).mono ?_
      rintro e w1 ⟨x, rfl, hx, s1, o1⟩
      unfold Byt at hx
      go_wp2_with fail
      refine (next_any g (k + 1) _ s1 (by omega)).mono ?_
      rintro e w2 ⟨y, rfl, hy, s2, o2⟩
      unfold Byt at hy
      have HP := Lib.hid (pickR_mod (n := n) (y := x * 256 + y) (by omega) (by omega) (by omega))
      have HF := Lib.hid (o1.trans o2)
      clear o1 o2
      go_wp2
      go_ret
      exact ⟨_, rfl, HP.out, s2, HF.out⟩
    · have h2' : decide (200 < n) = false := by simp; omega
      go_enter Tryz.func24, Tryz.ntmps24
      go_wp2_with fail
      refine (next_any g k _ h (by omega)).mono ?_
      rintro e w1 ⟨x, rfl, hx, s1, o1⟩
      unfold Byt at hx
      have HP := Lib.hid (pickR_mod (n := n) (y := x) (by omega) (by omega) (by omega))
      go_wp2
      go_ret
      exact ⟨_, rfl, HP.out, s1.more (by omega), o1⟩
/-- One of some texts. -/
theorem text_any (g k b m : Nat) (t : TypeId) (xs : List ByteArray) (w : World) (h : Src g k w) (hk : k ≤ 100000000000) (hb : Blk w b t (strs xs).toArray) (hm : xs.length = m) (h0 : 0 < m) (h1 : m ≤ 1000) (hne : g < b) :
    Calls Tryz.prog 63 #[.pointer (some ⟨g, 0, none⟩), .slice (some ⟨b, 0, none⟩) m m] w fun e w' => ∃ x : ByteArray, e = .returned (.string x) ∧ x ∈ xs ∧ Src g (k + 2) w' ∧ Only g (g + 1) w w' := by
  have HB := Lib.hid hb
  clear hb
  have HM := Lib.hid hm
  clear hm
  go_enter Tryz.func63, Tryz.ntmps63
  go_wp2_with fail
  refine (pick_any g k m _ h hk ⟨by omega, by omega⟩).mono ?_
  rintro e w1 ⟨x, rfl, hx, s1, o1⟩
  have hlt := hx.lt (by omega)
  have hx0 := hx.1
  clear hx
  obtain ⟨j, rfl⟩ := Int.eq_ofNat_of_zero_le hx0
  have hj : j < m := by omega
  have hg : xs[j]? = some (xs[j]'(by have := HM.out; omega)) := List.getElem?_eq_getElem _
  have hc : w1.cell? ⟨b, j, none⟩ = some (.string (xs[j]'(by have := HM.out; omega))) := by
    have hb1 : Blk w1 b t (strs xs).toArray := (o1.block b HB.out.lt (by omega)).trans HB.out
    rw [hb1.cell]; simp [strs, hg]
  have HG := Lib.hid (List.mem_of_getElem? hg)
  generalize xs[j]'(by have := HM.out; omega) = y at *
  clear hg
  go_wp2
  go_ret
  exact ⟨_, rfl, HG.out, s1, o1⟩
end Go.Proofs.YtjalgpioklcbfaaGreatDoor
namespace Go.Proofs.YtjalgpioklcbfaaGreatDoor
open Go.RowKit

theorem run_copy_blk {P : Program} (w : World) (dT sT ty elem : TypeId) (size g o dLen dCap : Nat) (a : Addr) (sLen sCap : Nat) (cur : Array Value) (t : TypeId) (cs : List Value)
    (hu : P.underlying dT = some (.slice elem)) (hs : (P.info? elem).map (·.size) = some size)
    (hg : w.heap[g]? = some (.cells cur t (0, 0))) (hn : cs.length = Nat.min sLen dLen * size)
    (hsrc : ∀ j v, cs[j]? = some v → w.cell? (a.add j) = some v) (hfit : o + cs.length ≤ cur.size) (h1 : ∀ v ∈ cs, v.oneCell' = true) :
    (Builtin.copy_ #[dT, sT] ty #[.slice (some ⟨g, o, none⟩) dLen dCap, .slice (some a) sLen sCap]).run P w =
      .ok (goInt (Nat.min sLen dLen)) (w.setRow g (cur.toList.take o ++ cs ++ cur.toList.drop (o + cs.length)).toArray) := by
  have hl := run_loadCells_list (P := P) w a cs hsrc
  have hst := run_storeCells_at P g o t cs 0 cur w hg (by simpa using hfit) h1
  cases hq : P.info? elem with
  | none => simp [hq] at hs
  | some i =>
    have hi : i.size = size := by simpa [hq] using hs
    simp [Builtin.copy_, run_underlying hu, Builtin.lenOf, Builtin.firstCells, sizeOf, typeInfo, hq, hi, ← hn, hl, hst]

/-- Block g is the row; all else is as it was. -/
structure Laid (g : Nat) (t : TypeId) (row : List Value) (w w' : World) : Prop where
  blk : Blk w' g t row.toArray
  os : w'.os = w.os
  tape : w'.tape = w.tape
  output : w'.output = w.output
  size : w'.heap.size = w.heap.size
  block : ∀ k, k ≠ g → w'.heap[k]? = w.heap[k]?
theorem Laid.refl {g : Nat} {t : TypeId} {row : List Value} {w : World} (h : Blk w g t row.toArray) : Laid g t row w w := ⟨h, rfl, rfl, rfl, rfl, fun _ _ => rfl⟩
theorem Laid.trans {g : Nat} {t : TypeId} {r1 r2 : List Value} {w w1 w2 : World} (h : Laid g t r1 w w1) (k : Laid g t r2 w1 w2) : Laid g t r2 w w2 :=
  ⟨k.blk, k.os.trans h.os, k.tape.trans h.tape, k.output.trans h.output, k.size.trans h.size, fun i hi => (k.block i hi).trans (h.block i hi)⟩
theorem Laid.drewN {g : Nat} {t : TypeId} {row : List Value} {w w1 : World} {n : Nat} (h : Laid g t row (w.drewN n) w1) : Laid g t row w w1 := ⟨h.blk, h.os, h.tape, h.output, h.size, h.block⟩
theorem Laid.drew {g : Nat} {t : TypeId} {row : List Value} {w w1 : World} (h : Laid g t row w.drew w1) : Laid g t row w w1 := ⟨h.blk, h.os, h.tape, h.output, h.size, h.block⟩
theorem Laid.only {g lo hi : Nat} {t : TypeId} {row : List Value} {w w' : World} (h : Laid g t row w w') (h1 : lo ≤ g) (h2 : g < hi) : Only lo hi w w' :=
  ⟨h.os, h.tape, h.output, by rw [h.size]; exact Nat.le_refl _, fun k _ hd => h.block k (by omega)⟩
theorem laid_setRow {g : Nat} {t : TypeId} {w : World} {cur : Array Value} (hg : w.heap[g]? = some (.cells cur t (0, 0))) (row : List Value) : Laid g t row w (w.setRow g row.toArray) :=
  ⟨setRow_heap w g cur row.toArray t (0, 0) hg, rfl, rfl, rfl, by simp [World.setRow], fun k hk => setRow_other w g k _ hk⟩

theorem step_copyBlk {P : Program} {ops : Array Oper} {o : Oper} {a : Act} {w : World} {K : Act → World → Prop} {Q : Exit → Act → World → Prop} {E : Prop} (hgd : o.guard = none) (d s : Operand) (dT sT : TypeId)
    (ho : o.op = .call { callee := .builtin .copy, args := #[d, s], argTypes := #[dT, sT] }) (elem : TypeId) (size : Nat) (hu : P.underlying dT = some (.slice elem)) (hsz : (P.info? elem).map (·.size) = some size)
    (g off dLen dCap : Nat) (ad : Addr) (sLen sCap : Nat) (hd : a.eval d = .slice (some ⟨g, off, none⟩) dLen dCap) (hs : a.eval s = .slice (some ad) sLen sCap)
    (o5 : Nat) (ho5 : off = o5) (cur : List Value) (t : TypeId) (hg : Blk w g t cur.toArray) (cs : List Value) (hn : cs.length = Nat.min sLen dLen * size)
    (hsrc : ∀ j v, cs[j]? = some v → w.cell? (ad.add j) = some v) (hfit : off + cs.length ≤ cur.length) (h1 : ∀ v ∈ cs, v.oneCell' = true)
    (h : ∀ w', Laid g t (splice cur o5 cs) w w' → K (a.put o.dst (goInt (Nat.min sLen dLen))) w') :
    if Region.wanted o (yielded ops a.tmps) = true then Oper.wp P o a w K Q else E := by
  subst ho5
  have hw : Region.wanted o (yielded ops a.tmps) = true := by simp [Region.wanted, hgd]
  rw [if_pos hw]
  have hrun := run_copy_blk (P := P) w dT sT o.type elem size g off dLen dCap ad sLen sCap cur.toArray t cs hu hsz hg hn hsrc (by simpa using hfit) h1
  unfold Oper.wp
  simp [execOp, ho, resolve, invoke, builtin, hd, hs, hrun, Result.andThen]
  have h9 := h _ (laid_setRow hg (splice cur off cs))
  simp only [splice] at h9
  exact h9

end Go.Proofs.YtjalgpioklcbfaaGreatDoor
namespace Go.Proofs.YtjalgpioklcbfaaGreatDoor
open Go.RowKit Go.ChangeShapes Go.WideShapes Go.Deep

structure Cl where
  name : ByteArray
  station : Int
  from_ : Int
  to_ : Int
  quota : Int

def Cl.good (x : Cl) : Prop := x.name.size ≤ 9223372036854775807 ∧ I64 x.station ∧ I64 x.from_ ∧ I64 x.to_ ∧ I64 x.quota
def Cl.small (x : Cl) : Prop := x.name.size ≤ 1048576
def cellsCl (x : Cl) : List Value := [.string x.name, .int .i64 x.station, .int .i64 x.from_, .int .i64 x.to_, .int .i64 x.quota]
def cls (l : List Cl) : List Value := l.flatMap cellsCl
section
variable {H : Type} {enc : TypeId × Value → H} {w : World}
end

end Go.Proofs.YtjalgpioklcbfaaGreatDoor
namespace Go.Proofs.YtjalgpioklcbfaaGreatDoor
open Go.RowKit Go.ChangeShapes Go.WideShapes Go.Deep

structure En where
  day : Int
  what : ByteArray
  val : Int

def En.good (x : En) : Prop := I64 x.day ∧ x.what.size ≤ 9223372036854775807 ∧ I64 x.val
def En.small (x : En) : Prop := x.what.size ≤ 1048576
def cellsEn (x : En) : List Value := [.int .i64 x.day, .string x.what, .int .i64 x.val]
def ens (l : List En) : List Value := l.flatMap cellsEn
theorem ens_length (l : List En) : (ens l).length = l.length * 3 := flat_length cellsEn 3 (fun _ => rfl) l
theorem ens_get {l : List En} {k : Nat} {x : En} (h : l[k]? = some x) : (ens l)[k * 3]? = some (.int .i64 x.day) ∧ (ens l)[k * 3 + 1]? = some (.string x.what) ∧ (ens l)[k * 3 + 2]? = some (.int .i64 x.val) :=
  ⟨flat_get cellsEn 3 (fun _ => rfl) l k x h 0 (by omega), flat_get cellsEn 3 (fun _ => rfl) l k x h 1 (by omega), flat_get cellsEn 3 (fun _ => rfl) l k x h 2 (by omega)⟩
theorem ens_len {w : World} {B n : Nat} {A : Option Addr} {l : List En} (h : Reads w B 3 A n (ens l)) : l.length = n := by
  have := h.1
  rw [ens_length] at this
  omega
theorem en_at {w : World} {B n k : Nat} {A : Option Addr} {l : List En} (h : Reads w B 3 A n (ens l)) (hk : k < n) :
    ∃ (x : En) (b off : Nat), l[k]? = some x ∧ A = some ⟨b, off, none⟩ ∧ b < B ∧ w.cell? ⟨b, off + k * 3, none⟩ = some (.int .i64 x.day) ∧ w.cell? ⟨b, off + k * 3 + 1, none⟩ = some (.string x.what) ∧ w.cell? ⟨b, off + k * 3 + 2, none⟩ = some (.int .i64 x.val) := by
  obtain ⟨b, off, rfl, hb, hcell⟩ := h.at_ (by omega)
  have hl := ens_len h
  have he : l[k]? = some l[k] := List.getElem?_eq_getElem (by omega)
  obtain ⟨e0, e1, e2⟩ := ens_get he
  exact ⟨_, b, off, he, rfl, hb, hcell _ _ e0, hcell _ _ e1, hcell _ _ e2⟩

section
variable {H : Type} {enc : TypeId × Value → H} {w : World}
end

end Go.Proofs.YtjalgpioklcbfaaGreatDoor
namespace Go.Proofs.YtjalgpioklcbfaaGreatDoor
open Go.RowKit

theorem wp_slOne {P : Program} {o : Oper} {a : Act} {Q : Exit → Act → World → Prop} {K : Act → World → Prop} (s x : Operand) (t : TypeId)
    (ho : o.op = .call { callee := .builtin .append, args := #[s, x], argTypes := #[t, t] })
    (e : TypeId) (zv : Value) (size bytes : Nat) (ht : P.underlying t = some (.slice e)) (hinfo : (P.info? e).map (fun i => (i.zero, i.size, i.bytes)) = some (some zv, size, bytes)) (hzs : zv.cells.size = size) (hsz : 0 < size) (hb : bytes ≤ 1000)
    {lo hi : Nat} {wr : World} {A : Option Addr} {m c : Nat} {xs : List Value} (h : Sl wr lo hi e size A m c xs) (hlo : lo ≤ wr.heap.size) (hs : a.eval s = .slice A m c)
    (news : List Value) (hd : Nat) (hhd : hd = wr.heap.size) (hx : a.eval x = .slice (some ⟨hd, 0, none⟩) 1 1) (hl : news.length = size) (h1 : ∀ u ∈ news, u.oneCell' = true) (hm : m < 100000000)
    (HK : ∀ A' c' w1, Sl w1 lo w1.heap.size e size A' (m + 1) c' (xs ++ news) → Below lo wr w1 → K (a.put o.dst (.slice A' (m + 1) c')) w1) : o.wp P a (wr.alloc (.cells news.toArray e)) K Q := by
  subst hhd
  obtain ⟨i, hi', hz, hsize, hby⟩ := info_parts hinfo
  have hAb : ∀ ad, A = some ad → lo ≤ ad.block := fun ad had => by
    rcases h.form with ⟨h0, _⟩ | ⟨g, cur, hg, h2, _⟩
    · rw [h0] at had; cases had
    · rw [hg] at had; injection had with had; subst had; exact h2
  have hown : (wr.alloc (.cells news.toArray e)).ownsRow lo e size (.slice A m c) m xs := h.1.alloc _
  obtain ⟨v', w', hr, h2, h3, h4, h5⟩ := run_append_own_at (P := P) (wr.alloc (.cells news.toArray e)) lo t o.type e i zv size bytes ht hi' hz hsize hby hzs hsz _ m xs hown ⟨wr.heap.size, 0, none⟩ 1 1 news (by omega) (news_at wr news e) h1 (by unfold maxLen; omega) (by
    calc (m + 1) * bytes ≤ 100000000 * 1000 := Nat.mul_le_mul (by omega) hb
      _ ≤ 140737488355328 := by decide) (by simp; omega)
  unfold Oper.wp execOp
  simp only [ho, resolve, invoke, builtin, Sem.run_bind, Sem.run_pure, Result.andThen_ok, List.map_toArray, List.map_cons, List.map_nil, hs, hx, hr]
  have hbel : Below lo wr w' := by
    refine ⟨h3.os, h3.tape, h3.output, ?_, fun k hk => ?_⟩
    · have := h3.size; simp at this; omega
    · rw [h3.block k (by simp; omega) (fun ee => ?_), Below.heap_alloc wr _ k (by omega)]
      cases A with
      | none => simp [Value.ownBlock] at ee
      | some ad =>
        simp [Value.ownBlock] at ee
        have := hAb ad rfl
        omega
  rcases h2.2 with ⟨hv, hn⟩ | ⟨g, cap, cur, hv, hb', hgg, hrest'⟩
  · omega
  · subst hv
    exact HK _ _ _ ⟨h2, fun ad had => by injection had with had; subst had; exact (Array.getElem?_eq_some_iff.1 hgg).1⟩ hbel
theorem wpList_slOne {P : Program} {ops : Array Oper} {rest : List Oper} {o : Oper} {a : Act} {Q : Exit → Act → World → Prop} (hgd : o.guard = none) (s x : Operand) (t : TypeId)
    (ho : o.op = .call { callee := .builtin .append, args := #[s, x], argTypes := #[t, t] })
    (e : TypeId) (zv : Value) (size bytes : Nat) (ht : P.underlying t = some (.slice e)) (hinfo : (P.info? e).map (fun i => (i.zero, i.size, i.bytes)) = some (some zv, size, bytes)) (hzs : zv.cells.size = size) (hsz : 0 < size) (hb : bytes ≤ 1000)
    {lo hi : Nat} {wr : World} {A : Option Addr} {m c : Nat} {xs : List Value} (h : Sl wr lo hi e size A m c xs) (hlo : lo ≤ wr.heap.size) (hs : a.eval s = .slice A m c)
    (news : List Value) (hd : Nat) (hhd : hd = wr.heap.size) (hx : a.eval x = .slice (some ⟨hd, 0, none⟩) 1 1) (hl : news.length = size) (h1 : ∀ u ∈ news, u.oneCell' = true) (hm : m < 100000000)
    (HK : ∀ A' c' w1, Sl w1 lo w1.heap.size e size A' (m + 1) c' (xs ++ news) → Below lo wr w1 → wpList P ops Q rest (a.put o.dst (.slice A' (m + 1) c')) w1) : wpList P ops Q (o :: rest) a (wr.alloc (.cells news.toArray e)) :=
  wpList_plain hgd fun K hK => wp_slOne s x t ho e zv size bytes ht hinfo hzs hsz hb h hlo hs news hd hhd hx hl h1 hm fun A' c' w1 k1 k2 => hK _ _ (HK A' c' w1 k1 k2)
theorem Sl.low {w : World} {lo hi : Nat} {t : TypeId} {size : Nat} {A : Option Addr} {n c : Nat} {xs : List Value} (h : Sl w lo hi t size A n c xs) : Sl w lo w.heap.size t size A n c xs := by
  refine ⟨h.1, fun b hb => ?_⟩
  have := h.1.lt b.block (by subst hb; rfl)
  exact this.2
theorem Sl.drewN {w : World} {lo hi : Nat} {t : TypeId} {size : Nat} {A : Option Addr} {n c : Nat} {xs : List Value} (h : Sl w lo hi t size A n c xs) (k : Nat) : Sl (w.drewN k) lo hi t size A n c xs := h.keep fun b _ _ _ => rfl
theorem Sl.drew {w : World} {lo hi : Nat} {t : TypeId} {size : Nat} {A : Option Addr} {n c : Nat} {xs : List Value} (h : Sl w lo hi t size A n c xs) : Sl w.drew lo hi t size A n c xs := h.keep fun b _ _ _ => rfl
/-- A cell of a block below is written. -/
theorem Sl.setLow {w : World} {lo hi : Nat} {t : TypeId} {size : Nat} {A : Option Addr} {n c : Nat} {xs : List Value} (h : Sl w lo hi t size A n c xs) {p : Addr} (hp : p.block < lo) (u : Value) : Sl (w.setCell p u) lo hi t size A n c xs :=
  h.keep fun b hb _ _ => Below.heap_setCell w p u b (by omega)
end Go.Proofs.YtjalgpioklcbfaaGreatDoor
namespace Go.Proofs.YtjalgpioklcbfaaGreatDoor
open Go.RowKit

section
variable {α : Type} {p : α → α → Bool} {l l' : List α} {k n : Nat} {x y : α}
def rowS (p : α → α → Bool) (l l' : List α) (i : Nat) : Bool := match l[i]?, l'[i]? with
  | some x, some y => p x y
  | _, _ => false
theorem rowS_at (h : l[k]? = some x) (h' : l'[k]? = some y) : rowS p l l' k = p x y := by simp [rowS, h, h']
def sameL (p : α → α → Bool) (l l' : List α) : Bool := decide (l.length = l'.length) && (List.range l.length).all (rowS p l l')
def AllS (p : α → α → Bool) (l l' : List α) (k : Nat) : Prop := AllTo (rowS p l l') (List.range l.length) k
theorem AllS.zero (p : α → α → Bool) (l l' : List α) : AllS p l l' 0 := AllTo.zero _ _
theorem AllS.step (h : AllS p l l' k) (h1 : l[k]? = some x) (h2 : l'[k]? = some y) (hp : p x y = true) : AllS p l l' (k + 1) := by
  have hk : (List.range l.length)[k]? = some k := by simp [(List.getElem?_eq_some_iff.1 h1).1]
  exact AllTo.step h hk ((rowS_at h1 h2).trans hp)
theorem AllS.done (h : AllS p l l' k) (hl : l.length = k) (hl' : l'.length = k) : sameL p l l' = true := by
  have h1 : (List.range l.length).all (rowS p l l') = true := AllTo.done h (by simpa using hl)
  simp only [sameL, h1, Bool.and_true, decide_eq_true_eq]; omega
end
theorem make_i64 (n : Nat) (hn : n ≤ 1048576) : ∀ w : World, (Instr.makeSlice 29 (.int .i64 (n : Int)) (.int .i64 (n : Int))).run Tryz.prog w = .ok (.slice (some ⟨w.heap.size, 0, none⟩) n n) (w.alloc (.cells (madeCells #[.int .i64 0] n) 2)) := by
  have := run_make_small 29 2 (.int .i64 0) 1 8 Tryz.underlying29 (by kernel_rfl) (by decide) n hn
  rwa [Nat.mul_one] at this
end Go.Proofs.YtjalgpioklcbfaaGreatDoor
