/- Texts cut at a byte: the plain law. No program in sight. A slice that a loop appends to: it lies in one known block of the call's own, or in a block that is younger than the loop. A block beside those that a call has turned. Slices of int64: the law's comparisons, marks and their reading. The text of a mark. Names: the reference's test and the program's. What a slice that came in is: a list of elements, read at its cells. Ranges: the two range tests and the tests of days that are made of them. The steps of a region that draws its order, said shortly. No function of the program in sight. A whole slice appended to a slice of the call's own. -/
import Derived.Lib.Split
import Derived.Lib.SplitLaws
import Derived.Lib.CutLaws
import Derived.Test.YtjalgpioklcbfaaGreatDoorKMem
import Derived.Maps.AppendAt
import Derived.Test.YtjalgpioklcbfaaGreatDoorProg
import Derived.Deep.QuietTactic
import Derived.BigQuiet
import Derived.WalkLawsBesides
import Derived.Deep.Slices
import Derived.Deep.Fields
import Derived.ChangeSame
import Derived.OpenShut
import Derived.OrdersHeld
set_option linter.unusedVariables false
namespace Go.Proofs.YtjalgpioklcbfaaGreatDoor
open Go.Lib

def splitL (c : UInt8) : List UInt8 → List (List UInt8)
  | [] => [[]]
  | x :: r => if x = c then [] :: splitL c r else match splitL c r with
    | [] => [[x]]
    | h :: t => (x :: h) :: t
theorem splitL_none {c : UInt8} : ∀ {l : List UInt8}, c ∉ l → splitL c l = [l]
  | [], _ => rfl
  | x :: r, h => by
    simp only [List.mem_cons, not_or] at h
    rw [splitL, if_neg (fun e => h.1 e.symm), splitL_none h.2]
theorem splitL_hit {c : UInt8} {r : List UInt8} : ∀ {a : List UInt8}, c ∉ a → splitL c (a ++ c :: r) = a :: splitL c r
  | [], _ => by simp [splitL]
  | x :: a, h => by
    simp only [List.mem_cons, not_or] at h
    rw [List.cons_append, splitL, if_neg (fun e => h.1 e.symm), splitL_hit h.2]
theorem splitL_len (c : UInt8) : ∀ l : List UInt8, (splitL c l).length = l.count c + 1
  | [] => rfl
  | x :: r => by
    have ih := splitL_len c r
    rw [splitL]
    by_cases h : x = c
    · subst h
      rw [if_pos rfl, List.length_cons, ih]
      simp
    · rw [if_neg h, List.count_cons_of_ne (by simpa using h)]
      revert ih
      cases splitL c r with
      | nil => intro ih; simp at ih
      | cons y t => intro ih; simpa using ih
theorem index_one (c : UInt8) : ∀ l : List UInt8, (index l [c] = -1 ∧ c ∉ l) ∨ ∃ a r, l = a ++ c :: r ∧ c ∉ a ∧ index l [c] = a.length
  | [] => .inl ⟨by simp [index], by simp⟩
  | b :: l => by
    by_cases h : c = b
    · subst h
      exact .inr ⟨[], l, rfl, by simp, by simp [index]⟩
    · have hp : ([c] : List UInt8).isPrefixOf (b :: l) = false := by simp [List.isPrefixOf, h]
      rcases index_one c l with ⟨h1, h2⟩ | ⟨a, r, rfl, h2, h3⟩
      · exact .inl ⟨by rw [index, hp, h1]; rfl, by simp [h, h2]⟩
      · refine .inr ⟨b :: a, r, rfl, by simp [h, h2], ?_⟩
        rw [index, hp, h3]
        rw [if_neg (by simp), if_neg (by simp)]
        simp
theorem splitK_ge (c : UInt8) : ∀ (k : Nat) (l : List UInt8), l.count c ≤ k → splitK [c] 0 k l = splitL c l
  | 0, l, h => by
    have : c ∉ l := by rw [← List.count_pos_iff]; omega
    rw [splitL_none this]; rfl
  | k + 1, l, h => by
    rw [splitK]
    rcases index_one c l with ⟨h1, h2⟩ | ⟨a, r, rfl, h2, h3⟩
    · rw [h1, splitL_none h2]; rfl
    · rw [h3, if_neg (by simp), splitL_hit h2]
      have hc : (a ++ c :: r).count c = r.count c + 1 := by
        rw [List.count_append, List.count_eq_zero.2 h2]; simp
      have e1 : ((a.length : Int)).toNat = a.length := by omega
      rw [e1, Nat.add_zero, List.take_left, List.length_singleton]
      have e2 : (a ++ c :: r).drop (a.length + 1) = r := by
        rw [← List.drop_drop, List.drop_left]; rfl
      rw [e2, splitK_ge c k r (by omega)]
def asBytes (l : List UInt8) : ByteArray := ⟨l.toArray⟩
theorem asBytes_data (s : ByteArray) : asBytes s.data.toList = s := by simp [asBytes]
theorem data_asBytes (l : List UInt8) : (asBytes l).data.toList = l := by simp [asBytes]
theorem asBytes_size (l : List UInt8) : (asBytes l).size = l.length := by simp [asBytes, ByteArray.size]
/-- The parts of a text between bytes c. -/
def splitS (c : UInt8) (s : ByteArray) : List ByteArray := (splitL c s.data.toList).map asBytes
theorem splitS_len (c : UInt8) (s : ByteArray) : (splitS c s).length = s.data.toList.count c + 1 := by simp [splitS, splitL_len]
theorem of_data {xs : List ByteArray} {ys : List (List UInt8)} (h : xs.map (·.data.toList) = ys) : xs = ys.map asBytes := by
  rw [← h, List.map_map]
  have : (asBytes ∘ fun x : ByteArray => x.data.toList) = id := by funext x; exact asBytes_data x
  rw [this, List.map_id]
theorem countB_one (c : UInt8) (s : ByteArray) : countB s ⟨#[c]⟩ = s.data.toList.count c := by
  rw [countB, show (⟨#[c]⟩ : ByteArray).data.toList = [c] from rfl, count_one]
theorem splitB_one (c : UInt8) (s : ByteArray) : splitB ⟨#[c]⟩ 0 (countB s ⟨#[c]⟩) s = splitS c s := by
  have h := splitB_data ⟨#[c]⟩ 0 (countB s ⟨#[c]⟩) s
  rw [of_data h, show (⟨#[c]⟩ : ByteArray).data.toList = [c] from rfl, splitK_ge c _ _ (by rw [countB_one]; exact Nat.le_refl _)]
  rfl
/-- The parts put together again. -/
def joinL (c : UInt8) : List (List UInt8) → List UInt8
  | [] => []
  | [x] => x
  | x :: y :: r => x ++ c :: joinL c (y :: r)
theorem splitL_ne (c : UInt8) (l : List UInt8) : splitL c l ≠ [] := by
  intro h
  have := splitL_len c l
  rw [h] at this
  cases this
theorem joinL_splitL (c : UInt8) : ∀ l : List UInt8, joinL c (splitL c l) = l
  | [] => rfl
  | x :: r => by
    have ih := joinL_splitL c r
    rw [splitL]
    by_cases h : x = c
    · subst h
      rw [if_pos rfl]
      have hne := splitL_ne x r
      revert ih hne
      cases splitL x r with
      | nil => intro _ hne; exact absurd rfl hne
      | cons y t => intro ih _; simp only [joinL]; rw [ih]; rfl
    · rw [if_neg h]
      have hne := splitL_ne c r
      revert ih hne
      cases splitL c r with
      | nil => intro _ hne; exact absurd rfl hne
      | cons y t =>
        intro ih _
        cases t with
        | nil => simp only [joinL] at ih ⊢; rw [ih]
        | cons z u => simp only [joinL] at ih ⊢; rw [List.cons_append, ih]
end Go.Proofs.YtjalgpioklcbfaaGreatDoor
namespace Go.Proofs.YtjalgpioklcbfaaGreatDoor
open Go.RowKit

/-- Behind w the world wr is as w was below block z, but for block b0; '.slice A m c' holds xs, in block b0 or from z on. -/
structure Acc (b0 z : Nat) (t : TypeId) (size : Nat) (w wr : World) (A : Option Addr) (m c : Nat) (xs : List Value) : Prop where
  own : wr.ownsRow 0 t size (.slice A m c) m xs
  at_ : ∀ a, A = some a → a.block = b0 ∨ z ≤ a.block
  os : wr.os = w.os
  tape : wr.tape = w.tape
  output : wr.output = w.output
  size : w.heap.size ≤ wr.heap.size
  block : ∀ k, k < z → k ≠ b0 → wr.heap[k]? = w.heap[k]?

section
variable {b0 z size m c : Nat} {t : TypeId} {w wr : World} {A : Option Addr} {xs : List Value}
theorem own_base0 {w : World} {base : Nat} {e : TypeId} {size : Nat} {v : Value} {n : Nat} {xs : List Value} (h : w.ownsRow base e size v n xs) : w.ownsRow 0 e size v n xs := by
  refine ⟨h.1, ?_⟩
  rcases h.2 with hn | ⟨g, cap, cur, h', hb, rest⟩
  · exact .inl hn
  · exact .inr ⟨g, cap, cur, h', Nat.zero_le _, rest⟩
theorem Acc.nil (w : World) (t : TypeId) (size : Nat) : Acc w.heap.size w.heap.size t size w w none 0 0 [] :=
  ⟨World.ownsRow_nil _ _ _ _, fun a h => (by cases h), rfl, rfl, rfl, Nat.le_refl _, fun _ _ _ => rfl⟩
/-- An empty slice just made. -/
theorem Acc.made (w : World) (t : TypeId) (size : Nat) : Acc w.heap.size w.heap.size t size w (w.alloc (.cells #[] t)) (some ⟨w.heap.size, 0, none⟩) 0 0 [] :=
  ⟨World.ownsRow_made w #[] 0 (Nat.zero_le _) (Nat.zero_le _) (by simp), fun a h => by injection h with h; subst h; exact .inr (Nat.le_refl _), rfl, rfl, rfl, by simp, fun k hk _ => Below.heap_alloc w _ k hk⟩
theorem Sl.made (w : World) (t : TypeId) (size : Nat) : Sl (w.alloc (.cells #[] t)) w.heap.size (w.heap.size + 1) t size (some ⟨w.heap.size, 0, none⟩) 0 0 [] :=
  ⟨World.ownsRow_made w #[] 0 (Nat.le_refl _) (Nat.zero_le _) (by simp), fun a h => by injection h with h; subst h; simp⟩
theorem Acc.start {lo hi : Nat} (h : Sl w lo hi t size A m c xs) (hA : ∀ a, A = some a → a.block = b0) (z : Nat) : Acc b0 z t size w w A m c xs :=
  ⟨own_base0 h.1, fun a ha => .inl (hA a ha), rfl, rfl, rfl, Nat.le_refl _, fun _ _ _ => rfl⟩
theorem Acc.len (h : Acc b0 z t size w wr A m c xs) : xs.length = m * size := h.own.1
/-- What stood below z, and not in block b0, stands. -/
theorem Acc.reads {B : Nat} {A' : Option Addr} {n size' : Nat} {ys : List Value} (h : Acc b0 z t size w wr A m c xs) (hr : Reads w B size' A' n ys) (hB : B ≤ z) (hne : B ≤ b0) : Reads wr B size' A' n ys :=
  hr.keep fun p hp => World.cell?_of_block (h.block p.block (by omega) (by omega))
theorem Acc.cell {p : Addr} (h : Acc b0 z t size w wr A m c xs) (hp : p.block < z) (hne : p.block ≠ b0) : wr.cell? p = w.cell? p := World.cell?_of_block (h.block p.block hp hne)
theorem Acc.frozen {p : Addr} (h : Acc b0 z t size w wr A m c xs) (hp : p.block < z) (hne : p.block ≠ b0) : wr.frozen? p = w.frozen? p := World.frozen?_of_block (h.block p.block hp hne)
theorem Acc.below {B : Nat} (h : Acc b0 z t size w wr A m c xs) (h1 : B ≤ b0) (h2 : B ≤ z) : Below B w wr := ⟨h.os, h.tape, h.output, h.size, fun k hk => h.block k (by omega) (by omega)⟩
theorem Acc.sl {lo : Nat} (h : Acc b0 z t size w wr A m c xs) (h1 : lo ≤ b0) (h2 : lo ≤ z) : Sl wr lo wr.heap.size t size A m c xs := by
  refine ⟨⟨h.own.1, ?_⟩, fun b hb => ?_⟩
  · rcases h.own.2 with hn | ⟨g, cap, cur, h', hb, rest⟩
    · exact .inl hn
    · refine .inr ⟨g, cap, cur, h', ?_, rest⟩
      injection h' with e1
      rcases h.at_ _ e1 with e | e <;> simp at e <;> omega
  · have := h.own.lt b.block (by subst hb; rfl)
    exact this.2
theorem Acc.blk {g : Nat} {t' : TypeId} {cs : Array Value} (h : Acc b0 z t size w wr A m c xs) (hg : Blk w g t' cs) (hz : g < z) (hne : g ≠ b0) : Blk wr g t' cs := (h.block g hz hne).trans hg
/-- A call that turned nothing that was there, beside the gathering. -/
theorem Acc.on {w2 : World} (h : Acc b0 z t size w wr A m c xs) (hb : Below wr.heap.size wr w2) (hz : z ≤ w.heap.size) : Acc b0 z t size w w2 A m c xs :=
  ⟨h.own.kept (row := none) ⟨hb.os, hb.tape, hb.output, hb.size, fun k hk _ => hb.block k hk⟩ (by cases hv : (Value.slice A m c).ownBlock <;> simp), h.at_, hb.os.trans h.os, hb.tape.trans h.tape, hb.output.trans h.output, Nat.le_trans h.size hb.size,
    fun k hk hne => (hb.block k (Nat.lt_of_lt_of_le hk (Nat.le_trans hz h.size))).trans (h.block k hk hne)⟩
end

theorem news_at (w : World) (news : List Value) (e : TypeId) : ∀ j u, news[j]? = some u → (w.alloc (.cells news.toArray e)).cell? ((⟨w.heap.size, 0, none⟩ : Addr).add j) = some u := by
  intro j u hu
  have hadd : (⟨w.heap.size, 0, none⟩ : Addr).add j = ⟨w.heap.size, j, none⟩ := by unfold Addr.add; split <;> simp_all
  rw [hadd, World.cell?_alloc_at _ _ _ _ rfl]
  simpa using hu

theorem wpList_acc {P : Program} {ops : Array Oper} {rest : List Oper} {o : Oper} {a : Act} {Q : Exit → Act → World → Prop} (hgd : o.guard = none) (s x : Operand) (t : TypeId)
    (ho : o.op = .call { callee := .builtin .append, args := #[s, x], argTypes := #[t, t] })
    (e : TypeId) (zv : Value) (size bytes : Nat) (ht : P.underlying t = some (.slice e)) (hinfo : (P.info? e).map (fun i => (i.zero, i.size, i.bytes)) = some (some zv, size, bytes)) (hzs : zv.cells.size = size) (hsz : 0 < size) (hb : bytes ≤ 1000)
    {b0 z : Nat} {w wr : World} {A : Option Addr} {m c : Nat} {xs : List Value} (h : Acc b0 z e size w wr A m c xs) (hzw : z ≤ w.heap.size) (hs : a.eval s = .slice A m c)
    (news : List Value) (hx : a.eval x = .slice (some ⟨wr.heap.size, 0, none⟩) 1 1) (hl : news.length = size) (h1 : ∀ u ∈ news, u.oneCell' = true) (hm : m < 100000000)
    (K : ∀ A' c' w1, Acc b0 z e size w w1 A' (m + 1) c' (xs ++ news) → wpList P ops Q rest (a.put o.dst (.slice A' (m + 1) c')) w1) : wpList P ops Q (o :: rest) a (wr.alloc (.cells news.toArray e)) := by
  obtain ⟨i, hi, hz, hsize, hby⟩ := info_parts hinfo
  refine wpList_append_own_at _ hgd s x t ho 0 e i zv size bytes ht hi hz hsize hby hzs hsz _ _ _ hs (h.own.alloc _) ⟨wr.heap.size, 0, none⟩ 1 1 news hx (by omega) (news_at wr news e) h1 (by unfold maxLen; omega) ?_ (Nat.zero_le _) ?_
  · calc (m + 1) * bytes ≤ 100000000 * 1000 := Nat.mul_le_mul (by omega) hb
      _ ≤ 140737488355328 := by decide
  · intro v' w' hown hgrow _ hat
    have hwz : (wr.alloc (.cells news.toArray e)).heap.size = wr.heap.size + 1 := by simp
    have hzr : z ≤ wr.heap.size := Nat.le_trans hzw h.size
    have hrest : ∀ k, k < z → k ≠ b0 → w'.heap[k]? = w.heap[k]? := fun k hk hne => by
      rw [hgrow.block k (by omega) (fun ee => ?_), Below.heap_alloc wr _ k (by omega)]
      · exact h.block k hk hne
      · cases A with
        | none => simp [Value.ownBlock] at ee
        | some ad =>
          simp [Value.ownBlock] at ee
          rcases h.at_ ad rfl with e1 | e1 <;> omega
    have hsz' : w.heap.size ≤ w'.heap.size := Nat.le_trans h.size (by have := hgrow.size; omega)
    rcases hown.2 with ⟨hv, hn⟩ | ⟨g, cap, cur, hv, hb', hgg, hrest'⟩
    · omega
    · have hat' : g = b0 ∨ z ≤ g := by
        subst hv
        rcases hat with e1 | e1
        · cases A with
          | none => simp [Value.ownBlock] at e1
          | some ad =>
            simp [Value.ownBlock] at e1
            rcases h.at_ ad rfl with e2 | e2 <;> omega
        · simp [Value.ownBlock] at e1
          omega
      subst hv
      exact K _ _ _ ⟨hown, fun ad had => by injection had with had; subst had; exact hat', by have := hgrow.os; rw [this]; exact h.os, by have := hgrow.tape; rw [this]; exact h.tape, by have := hgrow.output; rw [this]; exact h.output, hsz', hrest⟩
/-- The same where the new row's place is spelled otherwise. -/
theorem wpList_accAt {P : Program} {ops : Array Oper} {rest : List Oper} {o : Oper} {a : Act} {Q : Exit → Act → World → Prop} (hgd : o.guard = none) (s x : Operand) (t : TypeId)
    (ho : o.op = .call { callee := .builtin .append, args := #[s, x], argTypes := #[t, t] })
    (e : TypeId) (zv : Value) (size bytes : Nat) (ht : P.underlying t = some (.slice e)) (hinfo : (P.info? e).map (fun i => (i.zero, i.size, i.bytes)) = some (some zv, size, bytes)) (hzs : zv.cells.size = size) (hsz : 0 < size) (hb : bytes ≤ 1000)
    {b0 z : Nat} {w wr : World} {A : Option Addr} {m c : Nat} {xs : List Value} (h : Acc b0 z e size w wr A m c xs) (hzw : z ≤ w.heap.size) (hs : a.eval s = .slice A m c)
    (hd : Nat) (hhd : hd = wr.heap.size) (news : List Value) (hx : a.eval x = .slice (some ⟨hd, 0, none⟩) 1 1) (hl : news.length = size) (h1 : ∀ u ∈ news, u.oneCell' = true) (hm : m < 100000000)
    (K : ∀ A' c' w1, Acc b0 z e size w w1 A' (m + 1) c' (xs ++ news) → wpList P ops Q rest (a.put o.dst (.slice A' (m + 1) c')) w1) : wpList P ops Q (o :: rest) a (wr.alloc (.cells news.toArray e)) := by
  subst hhd
  exact wpList_acc hgd s x t ho e zv size bytes ht hinfo hzs hsz hb h hzw hs news hx hl h1 hm K
end Go.Proofs.YtjalgpioklcbfaaGreatDoor
namespace Go.Proofs.YtjalgpioklcbfaaGreatDoor
open Go.RowKit
theorem Blk.apart {w w' : World} {g lo hi : Nat} {t : TypeId} {cs : Array Value} (h : Blk w g t cs) (ho : Only lo hi w w') (hd : g < lo ∨ hi ≤ g) : Blk w' g t cs := (ho.block g h.lt hd).trans h
end Go.Proofs.YtjalgpioklcbfaaGreatDoor
namespace Go.Proofs.YtjalgpioklcbfaaGreatDoor
open Go.RowKit

theorem int_at {w : World} {B n k : Nat} {A : Option Addr} {l : List Int} (h : Reads w B 1 A n (ints l)) (hk : k < n) :
    ∃ (x : Int) (b off : Nat), l[k]? = some x ∧ A = some ⟨b, off, none⟩ ∧ b < B ∧ w.cell? ⟨b, off + k, none⟩ = some (.int .i64 x) := by
  obtain ⟨b, off, rfl, hb, hcell⟩ := h.at_ (by omega)
  have hl := h.1
  rw [ints_length] at hl
  have he : l[k]? = some l[k] := List.getElem?_eq_getElem (by omega)
  exact ⟨_, b, off, he, rfl, hb, hcell _ _ (ints_get he)⟩
theorem ints_len {w : World} {B n : Nat} {A : Option Addr} {l : List Int} (h : Reads w B 1 A n (ints l)) : l.length = n := by
  have := h.1
  rw [ints_length] at this
  omega

end Go.Proofs.YtjalgpioklcbfaaGreatDoor
namespace Go.Proofs.YtjalgpioklcbfaaGreatDoor
open Go.RowKit

end Go.Proofs.YtjalgpioklcbfaaGreatDoor
namespace Go.Proofs.YtjalgpioklcbfaaGreatDoor
open Go.RowKit

def nameC (c : UInt8) : Bool := inR c.toNat 97 122 || inR c.toNat 48 57 || decide ((c.toNat : Int) = 45)
def headS : List UInt8 → Bool
  | [] => false
  | c :: _ => inR c.toNat 97 122
/-- A name. -/
def isName (s : ByteArray) : Bool := decide (s.size ≤ 12) && headS s.data.toList && s.data.toList.all nameC
theorem byte_at (s : ByteArray) (k : Nat) (h : k < s.size) : s.data.toList[k]? = some s[k] := by
  rw [List.getElem?_eq_getElem (by simpa using h)]; rfl
theorem data_len (s : ByteArray) : s.data.toList.length = s.size := by rw [Array.length_toList]; rfl
theorem headS_at (s : ByteArray) (h : 0 < s.size) : headS s.data.toList = inR (s[0].toNat : Int) 97 122 := by
  have := byte_at s 0 h
  cases hl : s.data.toList with
  | nil => rw [hl] at this; simp at this
  | cons c r => rw [hl] at this; simp at this; rw [← this]; rfl
theorem notName_long {s : ByteArray} (h : 12 < s.size) : isName s = false := by simp [isName]; omega
theorem notName_empty {s : ByteArray} (h : s.size = 0) : isName s = false := by
  have : s.data.toList = [] := List.eq_nil_of_length_eq_zero (by rw [data_len]; exact h)
  simp [isName, this, headS]
theorem notName_head {s : ByteArray} (h0 : 0 < s.size) (h : inR (s[0].toNat : Int) 97 122 = false) : isName s = false := by simp [isName, headS_at s h0, h]
theorem notName_at {s : ByteArray} {k : Nat} (h0 : k < s.size) (h : nameC s[k] = false) : isName s = false := by simp [isName, all_bad (byte_at s k h0) h]
theorem isName_mk {s : ByteArray} {k : Nat} (h1 : s.size ≤ 12) (h0 : 0 < s.size) (h2 : inR (s[0].toNat : Int) 97 122 = true) (hk : s.size = k) (h : AllTo nameC s.data.toList k) : isName s = true := by
  simp only [isName, headS_at s h0, h2, h.done (by rw [data_len]; exact hk), Bool.and_true, decide_eq_true_eq]
  exact h1

theorem implIsName_any (s : ByteArray) (w : World) (hs : s.size ≤ 9223372036854775807) : Calls Tryz.prog 160 #[.string s] w fun e w' => e = .returned (.bool (isName s)) ∧ w = w' := by
  by_cases h0 : s.size = 0
  · have HN := Lib.hid (notName_empty h0)
    have h1 : (s.size : Int) < 1 := by omega
    clear h0
    go_enter Tryz.func160, Tryz.ntmps160
    go_wp2
    go_ret
    exact ⟨ret_bool HN.out.symm, rfl⟩
  · have hp : 0 < s.size := by omega
    clear h0
    by_cases h12 : 12 < s.size
    · have HN := Lib.hid (notName_long h12)
      go_enter Tryz.func160, Tryz.ntmps160
      go_wp2
      go_ret
      exact ⟨ret_bool HN.out.symm, rfl⟩
    · have i1 : (1 : Int) ≤ (s.size : Int) := by omega
      have i2 : (s.size : Int) ≤ 12 := by omega
      by_cases h97 : (97 : Int) ≤ (s[0].toNat : Int)
      · by_cases h122 : (s[0].toNat : Int) ≤ 122
        · have HH := Lib.hid (show inR (s[0].toNat : Int) 97 122 = true from inR_true.2 ⟨h97, h122⟩)
          have HN0 := Lib.hid (show nameC s[0] = true by simp [nameC, HH.out])
          go_enter Tryz.func160, Tryz.ntmps160
          go_wp2
          go_loop [3] (fun i => ∃ k : Nat, 1 ≤ k ∧ k ≤ s.size ∧ i = .int .i64 k ∧ AllTo nameC s.data.toList k) (fun i => s.size - (RowKit.intOf i).toNat)
          case atStart => exact ⟨1, by omega, by omega, rfl, (AllTo.zero _ _).step (byte_at s 0 hp) HN0.out⟩
          case round =>
            obtain ⟨k, hk1, hk, rfl, hall⟩ := hrel
            have HA := Lib.hid hall
            clear hall h97 h122
            by_cases hlt : k < s.size
            · have HE := Lib.hid (byte_at s k hlt)
              by_cases a1 : (97 : Int) ≤ (s[k].toNat : Int) ∧ (s[k].toNat : Int) ≤ 122
              · obtain ⟨a1, a2⟩ := a1
                have HC := Lib.hid (show nameC s[k] = true by simp [nameC, inR_true.2 ⟨a1, a2⟩])
                go_wp2
                go_round
                case rel => exact ⟨k + 1, by omega, by omega, by go_num, HA.out.step HE.out HC.out⟩
                case measure => simp [RowKit.intOf]; omega
              · by_cases b1 : (48 : Int) ≤ (s[k].toNat : Int) ∧ (s[k].toNat : Int) ≤ 57
                · obtain ⟨b1, b2⟩ := b1
                  have a2 : (s[k].toNat : Int) < 97 := by omega
                  have HC := Lib.hid (show nameC s[k] = true by simp [nameC, inR_true.2 ⟨b1, b2⟩])
                  clear a1
                  go_wp2
                  go_round
                  case rel => exact ⟨k + 1, by omega, by omega, by go_num, HA.out.step HE.out HC.out⟩
                  case measure => simp [RowKit.intOf]; omega
                · by_cases c1 : (s[k].toNat : Int) = 45
                  · have HC := Lib.hid (show nameC s[k] = true by simp [nameC, c1])
                    have c2 : ((s[k].toNat : Int) != 45) = false := by simp [c1]
                    have c3 : (s[k].toNat : Int) < 48 := by omega
                    have c4 : (s[k].toNat : Int) < 97 := by omega
                    clear a1 b1 c1
                    go_wp2
                    go_round
                    case rel => exact ⟨k + 1, by omega, by omega, by go_num, HA.out.step HE.out HC.out⟩
                    case measure => simp [RowKit.intOf]; omega
                  · have HC := Lib.hid (notName_at hlt (show nameC s[k] = false by
                      have e1 : inR (s[k].toNat : Int) 97 122 = false := inR_false.2 (by omega)
                      have e2 : inR (s[k].toNat : Int) 48 57 = false := inR_false.2 (by omega)
                      simp [nameC, e1, e2, c1]))
                    have c2 : ((s[k].toNat : Int) != 45) = true := by rw [bne_iff_ne]; exact c1
                    have a3 : (s[k].toNat : Int) < 97 ∨ 122 < (s[k].toNat : Int) := by omega
                    have b3 : (s[k].toNat : Int) < 48 ∨ 57 < (s[k].toNat : Int) := by omega
                    clear a1 b1 c1
                    rcases a3 with a3 | a3 <;> rcases b3 with b3 | b3
                    all_goals first
                      | omega
                      | (go_wp2
                         go_ret
                         exact ⟨ret_bool HC.out.symm, rfl⟩)
            · obtain rfl : s.size = k := by omega
              have HN := Lib.hid (isName_mk (by omega) hp HH.out rfl HA.out)
              go_wp2
              go_ret
              exact ⟨ret_bool HN.out.symm, rfl⟩
        · have HN := Lib.hid (notName_head hp (inR_false.2 (.inr (by omega))))
          go_enter Tryz.func160, Tryz.ntmps160
          go_wp2
          go_ret
          exact ⟨ret_bool HN.out.symm, rfl⟩
      · have HN := Lib.hid (notName_head hp (inR_false.2 (.inl (by omega))))
        go_enter Tryz.func160, Tryz.ntmps160
        go_wp2
        go_ret
        exact ⟨ret_bool HN.out.symm, rfl⟩

theorem l01Small_any (c : Int) (w : World) : Calls Tryz.prog 308 #[.int .u8 c] w fun e w' => e = .returned (.bool (inR c 97 122)) ∧ w = w' := by
  by_cases h1 : (97 : Int) ≤ c <;> by_cases h2 : c ≤ 122
  all_goals
    go_enter Tryz.func308, Tryz.ntmps308
    go_wp2
    go_ret
    exact ⟨ret_bool (by simp [inR, h1, h2]), rfl⟩
theorem l01Digit_any (c : Int) (w : World) : Calls Tryz.prog 229 #[.int .u8 c] w fun e w' => e = .returned (.bool (inR c 48 57)) ∧ w = w' := by
  by_cases h1 : (48 : Int) ≤ c <;> by_cases h2 : c ≤ 57
  all_goals
    go_enter Tryz.func229, Tryz.ntmps229
    go_wp2
    go_ret
    exact ⟨ret_bool (by simp [inR, h1, h2]), rfl⟩

theorem toList_ne {s : ByteArray} (h : 0 < s.size) : ¬ s.toList = [] := by
  intro e
  have : s.toList.length = s.size := by rw [ByteArray.toList_eq]; exact data_len s
  rw [e] at this
  simp at this; omega
theorem specIsName_any (s : ByteArray) (w : World) (hs : s.size ≤ 9223372036854775807) : Calls Tryz.prog 278 #[.string s] w fun e w' => e = .returned (.bool (isName s)) ∧ w = w' := by
  by_cases h0 : s.size = 0
  · have HN := Lib.hid (notName_empty h0)
    obtain rfl : s = ⟨#[]⟩ := by
      apply ByteArray.ext
      have : s.data.toList = [] := List.eq_nil_of_length_eq_zero (by rw [data_len]; exact h0)
      exact Array.toList_inj.1 (by simpa using this)
    clear h0 hs
    go_enter Tryz.func278, Tryz.ntmps278
    go_wp2
    go_ret
    exact ⟨ret_bool HN.out.symm, rfl⟩
  · have hp : 0 < s.size := by omega
    have ne1 := toList_ne hp
    have ne2 : s.toList.isEmpty = false := by simp [ne1]
    have i1 : (1 : Int) ≤ (s.size : Int) := by omega
    have hI : ((0 : Nat) : Int) < (s.size : Int) := by omega
    clear h0
    by_cases h12 : 12 < s.size
    · have HN := Lib.hid (notName_long h12)
      have i2 : (12 : Int) < (s.size : Int) := by omega
      go_enter Tryz.func278, Tryz.ntmps278
      go_wp2
      go_ret
      exact ⟨ret_bool HN.out.symm, rfl⟩
    · have i2 : (s.size : Int) ≤ 12 := by omega
      by_cases hh : inR (s[0].toNat : Int) 97 122 = true
      · have HH := Lib.hid hh
        go_enter Tryz.func278, Tryz.ntmps278
        go_wp2_with (go_at_call 308; refine (l01Small_any _ _).mono ?_; rintro e w' ⟨rfl, rfl⟩)
        go_loop [3] (fun i => ∃ k : Nat, k ≤ s.size ∧ i = .int .i64 k ∧ AllTo nameC s.data.toList k) (fun i => s.size - (RowKit.intOf i).toNat)
        case atStart => exact ⟨0, by omega, rfl, AllTo.zero _ _⟩
        case round =>
          obtain ⟨k, hk, rfl, hall⟩ := hrel
          have HA := Lib.hid hall
          clear hall hh
          by_cases hlt : k < s.size
          · have HE := Lib.hid (byte_at s k hlt)
            by_cases a1 : inR (s[k].toNat : Int) 97 122 = true
            · have HC := Lib.hid (show nameC s[k] = true by simp [nameC, a1])
              go_wp2_with (first | (go_at_call 308; refine (l01Small_any _ _).mono ?_; rintro e w' ⟨rfl, rfl⟩) | (go_at_call 229; refine (l01Digit_any _ _).mono ?_; rintro e w' ⟨rfl, rfl⟩))
              go_round
              case rel => exact ⟨k + 1, by omega, by go_num, HA.out.step HE.out HC.out⟩
              case measure => simp [RowKit.intOf]; omega
            · have a1 : inR (s[k].toNat : Int) 97 122 = false := by simpa using a1
              by_cases b1 : inR (s[k].toNat : Int) 48 57 = true
              · have HC := Lib.hid (show nameC s[k] = true by simp [nameC, b1])
                go_wp2_with (first | (go_at_call 308; refine (l01Small_any _ _).mono ?_; rintro e w' ⟨rfl, rfl⟩) | (go_at_call 229; refine (l01Digit_any _ _).mono ?_; rintro e w' ⟨rfl, rfl⟩))
                go_round
                case rel => exact ⟨k + 1, by omega, by go_num, HA.out.step HE.out HC.out⟩
                case measure => simp [RowKit.intOf]; omega
              · have b1 : inR (s[k].toNat : Int) 48 57 = false := by simpa using b1
                by_cases c1 : (s[k].toNat : Int) = 45
                · have HC := Lib.hid (show nameC s[k] = true by simp [nameC, c1])
                  have c2 : ((s[k].toNat : Int) != 45) = false := by simp [c1]
                  clear c1
                  go_wp2_with (first | (go_at_call 308; refine (l01Small_any _ _).mono ?_; rintro e w' ⟨rfl, rfl⟩) | (go_at_call 229; refine (l01Digit_any _ _).mono ?_; rintro e w' ⟨rfl, rfl⟩))
                  go_round
                  case rel => exact ⟨k + 1, by omega, by go_num, HA.out.step HE.out HC.out⟩
                  case measure => simp [RowKit.intOf]; omega
                · have HC := Lib.hid (notName_at hlt (show nameC s[k] = false by simp [nameC, a1, b1, c1]))
                  have c2 : ((s[k].toNat : Int) != 45) = true := by rw [bne_iff_ne]; exact c1
                  clear c1
                  go_wp2_with (first | (go_at_call 308; refine (l01Small_any _ _).mono ?_; rintro e w' ⟨rfl, rfl⟩) | (go_at_call 229; refine (l01Digit_any _ _).mono ?_; rintro e w' ⟨rfl, rfl⟩))
                  go_ret
                  exact ⟨ret_bool HC.out.symm, rfl⟩
          · obtain rfl : s.size = k := by omega
            have HN := Lib.hid (isName_mk (by omega) hp HH.out rfl HA.out)
            go_wp2
            go_ret
            exact ⟨ret_bool HN.out.symm, rfl⟩
      · have hh : inR (s[0].toNat : Int) 97 122 = false := by simpa using hh
        have HN := Lib.hid (notName_head hp hh)
        go_enter Tryz.func278, Tryz.ntmps278
        go_wp2_with (go_at_call 308; refine (l01Small_any _ _).mono ?_; rintro e w' ⟨rfl, rfl⟩)
        go_ret
        exact ⟨ret_bool HN.out.symm, rfl⟩
end Go.Proofs.YtjalgpioklcbfaaGreatDoor
namespace Go.Proofs.YtjalgpioklcbfaaGreatDoor
open Go.RowKit Go.ChangeShapes Go.WideShapes Go.Deep

theorem exists_list {α : Type} {p : Nat → α → Prop} : ∀ n : Nat, (∀ i, i < n → ∃ x, p i x) → ∃ l : List α, l.length = n ∧ ∀ i x, l[i]? = some x → p i x
  | 0, _ => ⟨[], rfl, fun i x h => by simp at h⟩
  | n + 1, h => by
    obtain ⟨l, hl, hp⟩ := exists_list n (fun i hi => h i (by omega))
    obtain ⟨x, hx⟩ := h n (by omega)
    refine ⟨l ++ [x], by simp [hl], fun i y hy => ?_⟩
    by_cases hi : i < n
    · rw [List.getElem?_append_left (by omega)] at hy
      exact hp i y hy
    · rw [List.getElem?_append_right (by omega)] at hy
      by_cases e : i = n
      · subst e; simp [hl] at hy; subst hy; exact hx
      · rw [List.getElem?_eq_none (by simp; omega)] at hy; cases hy

section
variable {H : Type} {enc : TypeId × Value → H} {P : Program} {w : World} {base : Nat} {spare : Nat → Bool} {held : Bool}
theorem field_int {n : Nat} {k : IntKind} {t : TypeId} {v : Value} {z : DataW H × List MemPlace} (ht : P.underlying t = some (.int k)) (h : DataW.trod enc P w base spare held n t [v] = some z) : ∃ x : Int, v = .int k x ∧ (Lit.int k x).wf = true := by
  obtain ⟨x, hx, _, hw⟩ := DataW.trod_int ht h
  injection hx with hx
  exact ⟨x, hx, hw⟩
theorem open_list {α : Type} (cell : α → List Value) (m : Nat) (good : α → Prop) (hm : ∀ x, (cell x).length = m) {t e : TypeId} {fuel : Nat} {cs : List Value} {x : DataW H × List MemPlace}
    (ht : P.underlying t = some (.slice e)) (hC : P.cellsOf e = m) (h0 : 0 < m)
    (hread : ∀ (n : Nat) (cs' : List Value) (y : DataW H × List MemPlace), cs'.length = m → DataW.trod enc P w base spare held n e cs' = some y → ∃ x, cell x = cs' ∧ good x)
    (h : DataW.trod enc P w base spare held fuel t cs = some x) :
    ∃ (A : Option Addr) (len cap : Nat) (l : List α), cs = [.slice A len cap] ∧ len ≤ 9223372036854775807 ∧ Reads w w.heap.size m A len (l.flatMap cell) ∧ ∀ x ∈ l, good x := by
  rcases open_slice ht h with ⟨rfl, _⟩ | ⟨a, len, cap, M, n, D, Pl, rfl, hb, hl, hcm, hmm, _, hi⟩
  · exact ⟨none, 0, 0, [], rfl, by omega, ⟨by simp, fun h => absurd h (by omega)⟩, fun x hx => by cases hx⟩
  · have hlM : len ≤ M := by rw [hmm]; split <;> omega
    obtain ⟨l, hll, hp⟩ := exists_list (p := fun i x => good x ∧ ∀ j, j < m → w.cell? ((a.add (i * m)).add j) = (cell x)[j]?) len (fun i hi' => by
      obtain ⟨cs', h1, h2⟩ := hi i (by omega)
      rw [hC] at h1
      obtain ⟨_, hcl, hat⟩ := World.cells?_some h1
      obtain ⟨x, rfl, hg⟩ := hread n _ _ hcl h2
      exact ⟨x, hg, hat⟩)
    refine ⟨some a, len, cap, l, rfl, by unfold maxLen at hcm; omega, ⟨?_, fun hn => ?_⟩, fun x hx => ?_⟩
    · rw [flat_length cell m hm, hll]
    · have hcell : ∀ i j, i < len → j < m → ∃ u, (l.flatMap cell)[i * m + j]? = some u ∧ w.cell? (a.add (i * m + j)) = some u := by
        intro i j hi' hj
        have hx : l[i]? = some (l[i]'(by omega)) := List.getElem?_eq_getElem (by omega)
        have h1 := (hp i _ hx).2 j hj
        rw [Go.Deep.add_add] at h1
        have h2 := flat_get cell m hm l i _ hx j hj
        have h3 : (cell (l[i]'(by omega)))[j]? = some ((cell (l[i]'(by omega)))[j]'(by rw [hm]; exact hj)) := List.getElem?_eq_getElem _
        exact ⟨_, h2.trans h3, h1.trans h3⟩
      obtain ⟨b, off, spot⟩ := a
      obtain ⟨u0, _, hc0⟩ := hcell 0 0 hn h0
      have hspot : spot = none := by simpa [Addr.add] using World.cell?_spot hc0
      subst hspot
      have hblk : b < w.heap.size := by simpa [Addr.add] using World.block_lt_of_cell? w _ hc0
      refine ⟨_, rfl, rfl, hblk, fun q u hu => ?_⟩
      have hq : q < len * m := by
        have := (List.getElem?_eq_some_iff.1 hu).1
        rwa [flat_length cell m hm, hll] at this
      have hqi : q / m < len := Nat.div_lt_of_lt_mul (by rw [Nat.mul_comm]; exact hq)
      obtain ⟨u', h1, h2⟩ := hcell (q / m) (q % m) hqi (Nat.mod_lt _ h0)
      rw [Nat.div_add_mod'] at h1 h2
      rw [hu] at h1
      injection h1 with h1
      subst h1
      have e : (⟨b, off, none⟩ : Addr).add q = ⟨b, off + q, none⟩ := by unfold Addr.add; split <;> simp_all
      rw [e] at h2
      exact h2
    · obtain ⟨j, hj, rfl⟩ := List.mem_iff_getElem.1 hx
      exact (hp j _ (List.getElem?_eq_getElem hj)).1
end
end Go.Proofs.YtjalgpioklcbfaaGreatDoor
namespace Go.Proofs.YtjalgpioklcbfaaGreatDoor
open Go.RowKit

theorem l00In_any (n lo hi : Int) (w : World) : Calls Tryz.prog 164 #[.int .i64 n, .int .i64 lo, .int .i64 hi] w fun e w' => e = .returned (.bool (inR n lo hi)) ∧ w = w' := by
  by_cases h1 : lo ≤ n <;> by_cases h2 : n ≤ hi
  all_goals
    go_enter Tryz.func164, Tryz.ntmps164
    go_wp2
    go_ret
    exact ⟨ret_bool (by simp [inR, h1, h2]), rfl⟩

theorem within_any (n lo hi : Int) (w : World) : Calls Tryz.prog 79 #[.int .i64 n, .int .i64 lo, .int .i64 hi] w fun e w' => e = .returned (.bool (inR n lo hi)) ∧ w = w' := by
  by_cases h1 : lo ≤ n <;> by_cases h2 : n ≤ hi
  all_goals
    go_enter Tryz.func79, Tryz.ntmps79
    go_wp2
    go_ret
    exact ⟨ret_bool (by simp [inR, h1, h2]), rfl⟩

theorem l27Day_any (d : Int) (w : World) : Calls Tryz.prog 277 #[.int .i64 d] w fun e w' => e = .returned (.bool (inR d 0 100000)) ∧ w = w' := by
  go_enter Tryz.func277, Tryz.ntmps277
  go_wp2_with (go_at_call 164; refine (l00In_any _ _ _ _).mono ?_; rintro e w' ⟨rfl, rfl⟩)
  go_ret
  exact ⟨rfl, rfl⟩
end Go.Proofs.YtjalgpioklcbfaaGreatDoor
namespace Go.Proofs.YtjalgpioklcbfaaGreatDoor
open Go.RowKit

theorem ly {α : Type} : (∀ (l : List α) (i : Nat) (h : i < l.toArray.size), l.toArray[i] = l[i]'(by simpa using h)) ∧ (∀ (a : α) (l : List α) (i : Nat) (h : i + 1 < (a :: l).length), (a :: l)[i + 1] = l[i]'(by simpa using h)) ∧ (∀ (a : α) (l : List α) (h : 0 < (a :: l).length), (a :: l)[0] = a) ∧ (∀ (l : List α) (i : Nat) (a : α), l.toArray.setIfInBounds i a = (l.set i a).toArray) ∧ (∀ (a b : α) (l : List α), (a :: l).set 0 b = b :: l) ∧ (∀ (a b : α) (l : List α) (i : Nat), (a :: l).set (i + 1) b = a :: l.set i b) := by
  refine ⟨fun l i h => by simp, fun a l i h => by simp, fun a l h => by simp, fun l i a => by simp, fun a b l => by simp, fun a b l i => by simp⟩
theorem cells5 {w : World} {g : Nat} {t : TypeId} {a b c d e : Value} (y : Blk w g t #[a, b, c, d, e]) : w.cell? ⟨g, 0, none⟩ = some a ∧ w.cell? ⟨g, 1, none⟩ = some b ∧ w.cell? ⟨g, 2, none⟩ = some c ∧ w.cell? ⟨g, 3, none⟩ = some d ∧ w.cell? ⟨g, 4, none⟩ = some e :=
  ⟨y.cellAt 0 (by simp), y.cellAt 1 (by simp), y.cellAt 2 (by simp), y.cellAt 3 (by simp), y.cellAt 4 (by simp)⟩
theorem frozen5 {w : World} {g : Nat} {t : TypeId} {cs : Array Value} (y : Blk w g t cs) : w.frozen? ⟨g, 0, none⟩ = false ∧ w.frozen? ⟨g, 1, none⟩ = false ∧ w.frozen? ⟨g, 2, none⟩ = false ∧ w.frozen? ⟨g, 3, none⟩ = false ∧ w.frozen? ⟨g, 4, none⟩ = false :=
  ⟨y.frozen 0, y.frozen 1, y.frozen 2, y.frozen 3, y.frozen 4⟩
section
variable {P : Program} {md : Region.Mode} {ops : Array Oper} {Q : Exit → Act → World → Prop} {S : World → Prop} {oi : Oper} {fuel : Nat} {listed : Array Bool} {a : Act} {w : World}
theorem tk (i : Nat) (hi : ops[i]? = some oi) (v : Value) (hy : ∀ w, S w → (execOp a.eval oi).run P w = .ok (.value v) w) (h : wpAnyH P md ops Q S fuel (listed.setIfInBounds i true) (a.put oi.dst v) w) (hw : Region.wanted oi (yielded ops a.tmps) = true := by kernel_rfl) (hs : Region.noSelect ops = true := by kernel_rfl) (hf : Region.free md ops listed i = true := by kernel_rfl) (hr : (Region.ready md ops listed).contains i = true := by kernel_rfl) (hQ : ∀ c a w, Q (.panic c) (a.put oi.dst v) w → Q (.panic c) a w := by exact fun _ _ _ h => h) (hS : S w := by assumption) : wpAnyH P md ops Q S (fuel + 1) listed a w :=
  wpAnyH_take hi hs hf hr hQ (Or.inl ⟨hw, hy⟩) hS h
theorem tu (i : Nat) (hi : ops[i]? = some oi) (h : wpAnyH P md ops Q S fuel (listed.setIfInBounds i true) (a.put oi.dst undef) w) (hw : Region.wanted oi (yielded ops a.tmps) = false := by kernel_rfl) (hs : Region.noSelect ops = true := by kernel_rfl) (hf : Region.free md ops listed i = true := by kernel_rfl) (hr : (Region.ready md ops listed).contains i = true := by kernel_rfl) (hQ : ∀ c a w, Q (.panic c) (a.put oi.dst undef) w → Q (.panic c) a w := by exact fun _ _ _ h => h) (hS : S w := by assumption) : wpAnyH P md ops Q S (fuel + 1) listed a w :=
  wpAnyH_take hi hs hf hr hQ (Or.inr ⟨hw, rfl⟩) hS h
end
end Go.Proofs.YtjalgpioklcbfaaGreatDoor
namespace Go.Proofs.YtjalgpioklcbfaaGreatDoor
open Go.RowKit

theorem add_plain (b off j : Nat) : ((⟨b, off, none⟩ : Addr).add j) = ⟨b, off + j, none⟩ := by unfold Addr.add; split <;> simp_all
theorem wpList_accMany {P : Program} {ops : Array Oper} {rest : List Oper} {o : Oper} {a : Act} {Q : Exit → Act → World → Prop} (hgd : o.guard = none) (s x : Operand) (t : TypeId)
    (ho : o.op = .call { callee := .builtin .append, args := #[s, x], argTypes := #[t, t] })
    (e : TypeId) (zv : Value) (size bytes : Nat) (ht : P.underlying t = some (.slice e)) (hinfo : (P.info? e).map (fun i => (i.zero, i.size, i.bytes)) = some (some zv, size, bytes)) (hzs : zv.cells.size = size) (hsz : 0 < size) (hb : bytes ≤ 1000)
    {b0 z : Nat} {w wr : World} {A : Option Addr} {m c : Nat} {xs : List Value} (h : Acc b0 z e size w wr A m c xs) (hzw : z ≤ w.heap.size) (hs : a.eval s = .slice A m c)
    (b off k d : Nat) (news : List Value) (hx : a.eval x = .slice (some ⟨b, off, none⟩) k d) (hl : news.length = k * size) (hc : ∀ j u, news[j]? = some u → wr.cell? ⟨b, off + j, none⟩ = some u) (h1 : ∀ u ∈ news, u.oneCell' = true) (hm : m + k < 100000000)
    (K : ∀ A' c' w1, Acc b0 z e size w w1 A' (m + k) c' (xs ++ news) → wpList P ops Q rest (a.put o.dst (.slice A' (m + k) c')) w1) : wpList P ops Q (o :: rest) a wr := by
  obtain ⟨i, hi, hz, hsize, hby⟩ := info_parts hinfo
  refine wpList_append_own_at _ hgd s x t ho 0 e i zv size bytes ht hi hz hsize hby hzs hsz _ _ _ hs h.own ⟨b, off, none⟩ k d news hx hl (fun j u hu => by rw [add_plain]; exact hc j u hu) h1 (by unfold maxLen; omega) ?_ (Nat.zero_le _) ?_
  · calc (m + k) * bytes ≤ 100000000 * 1000 := Nat.mul_le_mul (by omega) hb
      _ ≤ 140737488355328 := by decide
  · intro v' w' hown hgrow _ hat
    have hzr : z ≤ wr.heap.size := Nat.le_trans hzw h.size
    have hrest : ∀ q, q < z → q ≠ b0 → w'.heap[q]? = w.heap[q]? := fun q hq hne => by
      rw [hgrow.block q (by omega) (fun ee => ?_)]
      · exact h.block q hq hne
      · cases A with
        | none => simp [Value.ownBlock] at ee
        | some ad =>
          simp [Value.ownBlock] at ee
          rcases h.at_ ad rfl with e1 | e1 <;> omega
    have hsz' : w.heap.size ≤ w'.heap.size := Nat.le_trans h.size hgrow.size
    rcases hown.2 with ⟨hv, hn⟩ | ⟨g, cap, cur, hv, hb', hgg, hrest'⟩
    · subst hv
      rw [show (Value.slice none 0 0) = .slice none (m + k) 0 from by rw [hn]]
      exact K _ _ _ ⟨by rw [hn] at hown ⊢; exact hown, (fun ad had => by cases had), by have := hgrow.os; rw [this]; exact h.os, by have := hgrow.tape; rw [this]; exact h.tape, by have := hgrow.output; rw [this]; exact h.output, hsz', hrest⟩
    · have hat' : g = b0 ∨ z ≤ g := by
        subst hv
        rcases hat with e1 | e1
        · cases A with
          | none => simp [Value.ownBlock] at e1
          | some ad =>
            simp [Value.ownBlock] at e1
            rcases h.at_ ad rfl with e2 | e2 <;> omega
        · simp [Value.ownBlock] at e1
          omega
      subst hv
      exact K _ _ _ ⟨hown, fun ad had => by injection had with had; subst had; exact hat', by have := hgrow.os; rw [this]; exact h.os, by have := hgrow.tape; rw [this]; exact h.tape, by have := hgrow.output; rw [this]; exact h.output, hsz', hrest⟩
end Go.Proofs.YtjalgpioklcbfaaGreatDoor
