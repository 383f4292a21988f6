/- A slice that a loop appends to: it lies in one known block of the call's own, or in a block that is younger than the loop. One element appended, block by block. No function of the program in sight. The source that the draws read from: a struct in memory, its code elsewhere. The names of all clients, in the program: collected, sorted, each once. Bookings: the tests of one booking and of a list of bookings. Bookings: the test of a list of bookings, as the program makes it. Bookings: the reference's test of a list, by its own name. Bookings: sums over a list, codes, balances. Two stretches exchanged, two neighbours turned: what slices' swapRange and rotate do at strings. What the closures of DebtorsOn say; slices' rotate and insertionSort at strings. slices' IndexFunc and DeleteFunc at strings, with the predicate of DebtorsOn: what it does not hold of is left, in order. -/
import Derived.Test.YtjmlcobbjpmjpaaGreatDoorMgBalancesAA
import Derived.Maps.AppendAt
import Derived.Test.YtjmlcobbjpmjpaaGreatDoorProg
import Derived.Laws.Bits64b
import Derived.Test.YtjmlcobbjpmjpaaGreatDoorShelf
import Derived.Deep.QuietTactic
import Derived.Deep.RegionWith
import Derived.IntWalk
import Derived.Deep.RegionHeld3
import Derived.Orders
import Derived.Lib.SliceRun
set_option linter.unusedVariables false
set_option linter.unusedSimpArgs false
namespace Go.Proofs.YtjmlcobbjpmjpaaGreatDoor
open Go.RowKit

/-- Behind w the world wr is as w was below block z, but for block b0; '.slice A m c' holds xs, in block b0 or from z on. -/
structure Acc (b0 z : Nat) (t : TypeId) (size : Nat) (w wr : World) (A : Option Addr) (m c : Nat) (xs : List Value) : Prop where
  own : wr.ownsRow 0 t size (.slice A m c) m xs
  at_ : ∀ a, A = some a → a.block = b0 ∨ z ≤ a.block
  os : wr.os = w.os
  tape : wr.tape = w.tape
  output : wr.output = w.output
  size : w.heap.size ≤ wr.heap.size
  block : ∀ k, k < z → k ≠ b0 → wr.heap[k]? = w.heap[k]?

section
variable {b0 z size m c : Nat} {t : TypeId} {w wr : World} {A : Option Addr} {xs : List Value}
theorem own_base0 {w : World} {base : Nat} {e : TypeId} {size : Nat} {v : Value} {n : Nat} {xs : List Value} (h : w.ownsRow base e size v n xs) : w.ownsRow 0 e size v n xs := by
  refine ⟨h.1, ?_⟩
  rcases h.2 with hn | ⟨g, cap, cur, h', hb, rest⟩
  · exact .inl hn
  · exact .inr ⟨g, cap, cur, h', Nat.zero_le _, rest⟩
theorem Acc.nil (w : World) (t : TypeId) (size : Nat) : Acc w.heap.size w.heap.size t size w w none 0 0 [] :=
  ⟨World.ownsRow_nil _ _ _ _, fun a h => (by cases h), rfl, rfl, rfl, Nat.le_refl _, fun _ _ _ => rfl⟩
/-- An empty slice just made. -/
theorem Acc.made (w : World) (t : TypeId) (size : Nat) : Acc w.heap.size w.heap.size t size w (w.alloc (.cells #[] t)) (some ⟨w.heap.size, 0, none⟩) 0 0 [] :=
  ⟨World.ownsRow_made w #[] 0 (Nat.zero_le _) (Nat.zero_le _) (by simp), fun a h => by injection h with h; subst h; exact .inr (Nat.le_refl _), rfl, rfl, rfl, by simp, fun k hk _ => Below.heap_alloc w _ k hk⟩
theorem Sl.made (w : World) (t : TypeId) (size : Nat) : Sl (w.alloc (.cells #[] t)) w.heap.size (w.heap.size + 1) t size (some ⟨w.heap.size, 0, none⟩) 0 0 [] :=
  ⟨World.ownsRow_made w #[] 0 (Nat.le_refl _) (Nat.zero_le _) (by simp), fun a h => by injection h with h; subst h; simp⟩
theorem Acc.start {lo hi : Nat} (h : Sl w lo hi t size A m c xs) (hA : ∀ a, A = some a → a.block = b0) (z : Nat) : Acc b0 z t size w w A m c xs :=
  ⟨own_base0 h.1, fun a ha => .inl (hA a ha), rfl, rfl, rfl, Nat.le_refl _, fun _ _ _ => rfl⟩
theorem Acc.len (h : Acc b0 z t size w wr A m c xs) : xs.length = m * size := h.own.1
/-- What stood below z, and not in block b0, stands. -/
theorem Acc.reads {B : Nat} {A' : Option Addr} {n size' : Nat} {ys : List Value} (h : Acc b0 z t size w wr A m c xs) (hr : Reads w B size' A' n ys) (hB : B ≤ z) (hne : B ≤ b0) : Reads wr B size' A' n ys :=
  hr.keep fun p hp => World.cell?_of_block (h.block p.block (by omega) (by omega))
theorem Acc.readsNe {B g : Nat} {n size' : Nat} {ys : List Value} (h : Acc b0 z t size w wr A m c xs) (hr : Reads w B size' (some ⟨g, 0, none⟩) n ys) (hB : B ≤ z) (hne : g ≠ b0) : Reads wr B size' (some ⟨g, 0, none⟩) n ys :=
  ⟨hr.1, fun hn => by
    obtain ⟨ad, e, hs, hb, hc⟩ := hr.2 hn
    injection e with e
    subst e
    exact ⟨_, rfl, hs, hb, fun j u hu => (World.cell?_of_block (h.block g (by simp at hb; omega) hne)).trans (hc j u hu)⟩⟩
theorem Acc.cell {p : Addr} (h : Acc b0 z t size w wr A m c xs) (hp : p.block < z) (hne : p.block ≠ b0) : wr.cell? p = w.cell? p := World.cell?_of_block (h.block p.block hp hne)
theorem Acc.frozen {p : Addr} (h : Acc b0 z t size w wr A m c xs) (hp : p.block < z) (hne : p.block ≠ b0) : wr.frozen? p = w.frozen? p := World.frozen?_of_block (h.block p.block hp hne)
theorem Acc.below {B : Nat} (h : Acc b0 z t size w wr A m c xs) (h1 : B ≤ b0) (h2 : B ≤ z) : Below B w wr := ⟨h.os, h.tape, h.output, h.size, fun k hk => h.block k (by omega) (by omega)⟩
theorem Acc.sl {lo : Nat} (h : Acc b0 z t size w wr A m c xs) (h1 : lo ≤ b0) (h2 : lo ≤ z) : Sl wr lo wr.heap.size t size A m c xs := by
  refine ⟨⟨h.own.1, ?_⟩, fun b hb => ?_⟩
  · rcases h.own.2 with hn | ⟨g, cap, cur, h', hb, rest⟩
    · exact .inl hn
    · refine .inr ⟨g, cap, cur, h', ?_, rest⟩
      injection h' with e1
      rcases h.at_ _ e1 with e | e <;> simp at e <;> omega
  · have := h.own.lt b.block (by subst hb; rfl)
    exact this.2
/-- The same, seen from the world as it stands. -/
theorem Acc.rebase (h : Acc b0 z t size w wr A m c xs) : Acc b0 z t size wr wr A m c xs := ⟨h.own, h.at_, rfl, rfl, rfl, Nat.le_refl _, fun _ _ _ => rfl⟩
theorem Acc.setOther {p : Addr} (h : Acc b0 z t size w wr A m c xs) (hp : p.block < z) (hne : p.block ≠ b0) (u : Value) : Acc b0 z t size (wr.setCell p u) (wr.setCell p u) A m c xs := by
  refine ⟨?_, h.at_, rfl, rfl, rfl, Nat.le_refl _, fun _ _ _ => rfl⟩
  refine ⟨h.own.1, ?_⟩
  rcases h.own.2 with hn | ⟨g, cap, cur, h', hb, hh, r⟩
  · exact .inl hn
  · refine .inr ⟨g, cap, cur, h', hb, ?_, r⟩
    injection h' with e1
    have := h.at_ _ e1
    simp only at this
    rw [Below.heap_setCell _ _ _ _ (by omega)]
    exact hh
theorem Acc.blk {g : Nat} {t' : TypeId} {cs : Array Value} (h : Acc b0 z t size w wr A m c xs) (hg : Blk w g t' cs) (hz : g < z) (hne : g ≠ b0) : Blk wr g t' cs := (h.block g hz hne).trans hg
/-- A call that turned nothing that was there, beside the gathering. -/
theorem Acc.on {w2 : World} (h : Acc b0 z t size w wr A m c xs) (hb : Below wr.heap.size wr w2) (hz : z ≤ w.heap.size) : Acc b0 z t size w w2 A m c xs :=
  ⟨h.own.kept (row := none) ⟨hb.os, hb.tape, hb.output, hb.size, fun k hk _ => hb.block k hk⟩ (by cases hv : (Value.slice A m c).ownBlock <;> simp), h.at_, hb.os.trans h.os, hb.tape.trans h.tape, hb.output.trans h.output, Nat.le_trans h.size hb.size,
    fun k hk hne => (hb.block k (Nat.lt_of_lt_of_le hk (Nat.le_trans hz h.size))).trans (h.block k hk hne)⟩
end

theorem news_at (w : World) (news : List Value) (e : TypeId) : ∀ j u, news[j]? = some u → (w.alloc (.cells news.toArray e)).cell? ((⟨w.heap.size, 0, none⟩ : Addr).add j) = some u := by
  intro j u hu
  have hadd : (⟨w.heap.size, 0, none⟩ : Addr).add j = ⟨w.heap.size, j, none⟩ := by unfold Addr.add; split <;> simp_all
  rw [hadd, World.cell?_alloc_at _ _ _ _ rfl]
  simpa using hu

theorem wpList_acc {P : Program} {ops : Array Oper} {rest : List Oper} {o : Oper} {a : Act} {Q : Exit → Act → World → Prop} (hgd : o.guard = none) (s x : Operand) (t : TypeId)
    (ho : o.op = .call { callee := .builtin .append, args := #[s, x], argTypes := #[t, t] })
    (e : TypeId) (zv : Value) (size bytes : Nat) (ht : P.underlying t = some (.slice e)) (hinfo : (P.info? e).map (fun i => (i.zero, i.size, i.bytes)) = some (some zv, size, bytes)) (hzs : zv.cells.size = size) (hsz : 0 < size) (hb : bytes ≤ 1000)
    {b0 z : Nat} {w wr : World} {A : Option Addr} {m c : Nat} {xs : List Value} (h : Acc b0 z e size w wr A m c xs) (hzw : z ≤ w.heap.size) (hs : a.eval s = .slice A m c)
    (news : List Value) (hx : a.eval x = .slice (some ⟨wr.heap.size, 0, none⟩) 1 1) (hl : news.length = size) (h1 : ∀ u ∈ news, u.oneCell' = true) (hm : m < 100000000)
    (K : ∀ A' c' w1, Acc b0 z e size w w1 A' (m + 1) c' (xs ++ news) → wpList P ops Q rest (a.put o.dst (.slice A' (m + 1) c')) w1) : wpList P ops Q (o :: rest) a (wr.alloc (.cells news.toArray e)) := by
  obtain ⟨i, hi, hz, hsize, hby⟩ := info_parts hinfo
  refine wpList_append_own_at _ hgd s x t ho 0 e i zv size bytes ht hi hz hsize hby hzs hsz _ _ _ hs (h.own.alloc _) ⟨wr.heap.size, 0, none⟩ 1 1 news hx (by omega) (news_at wr news e) h1 (by unfold maxLen; omega) ?_ (Nat.zero_le _) ?_
  · calc (m + 1) * bytes ≤ 100000000 * 1000 := Nat.mul_le_mul (by omega) hb
      _ ≤ 140737488355328 := by decide
  · intro v' w' hown hgrow _ hat
    have hwz : (wr.alloc (.cells news.toArray e)).heap.size = wr.heap.size + 1 := by simp
    have hzr : z ≤ wr.heap.size := Nat.le_trans hzw h.size
    have hrest : ∀ k, k < z → k ≠ b0 → w'.heap[k]? = w.heap[k]? := fun k hk hne => by
      rw [hgrow.block k (by omega) (fun ee => ?_), Below.heap_alloc wr _ k (by omega)]
      · exact h.block k hk hne
      · cases A with
        | none => simp [Value.ownBlock] at ee
        | some ad =>
          simp [Value.ownBlock] at ee
          rcases h.at_ ad rfl with e1 | e1 <;> omega
    have hsz' : w.heap.size ≤ w'.heap.size := Nat.le_trans h.size (by have := hgrow.size; omega)
    rcases hown.2 with ⟨hv, hn⟩ | ⟨g, cap, cur, hv, hb', hgg, hrest'⟩
    · omega
    · have hat' : g = b0 ∨ z ≤ g := by
        subst hv
        rcases hat with e1 | e1
        · cases A with
          | none => simp [Value.ownBlock] at e1
          | some ad =>
            simp [Value.ownBlock] at e1
            rcases h.at_ ad rfl with e2 | e2 <;> omega
        · simp [Value.ownBlock] at e1
          omega
      subst hv
      exact K _ _ _ ⟨hown, fun ad had => by injection had with had; subst had; exact hat', by have := hgrow.os; rw [this]; exact h.os, by have := hgrow.tape; rw [this]; exact h.tape, by have := hgrow.output; rw [this]; exact h.output, hsz', hrest⟩
/-- The same where the new row's place is spelled otherwise. -/
theorem wpList_accAt {P : Program} {ops : Array Oper} {rest : List Oper} {o : Oper} {a : Act} {Q : Exit → Act → World → Prop} (hgd : o.guard = none) (s x : Operand) (t : TypeId)
    (ho : o.op = .call { callee := .builtin .append, args := #[s, x], argTypes := #[t, t] })
    (e : TypeId) (zv : Value) (size bytes : Nat) (ht : P.underlying t = some (.slice e)) (hinfo : (P.info? e).map (fun i => (i.zero, i.size, i.bytes)) = some (some zv, size, bytes)) (hzs : zv.cells.size = size) (hsz : 0 < size) (hb : bytes ≤ 1000)
    {b0 z : Nat} {w wr : World} {A : Option Addr} {m c : Nat} {xs : List Value} (h : Acc b0 z e size w wr A m c xs) (hzw : z ≤ w.heap.size) (hs : a.eval s = .slice A m c)
    (hd : Nat) (hhd : hd = wr.heap.size) (news : List Value) (hx : a.eval x = .slice (some ⟨hd, 0, none⟩) 1 1) (hl : news.length = size) (h1 : ∀ u ∈ news, u.oneCell' = true) (hm : m < 100000000)
    (K : ∀ A' c' w1, Acc b0 z e size w w1 A' (m + 1) c' (xs ++ news) → wpList P ops Q rest (a.put o.dst (.slice A' (m + 1) c')) w1) : wpList P ops Q (o :: rest) a (wr.alloc (.cells news.toArray e)) := by
  subst hhd
  exact wpList_acc hgd s x t ho e zv size bytes ht hinfo hzs hsz hb h hzw hs news hx hl h1 hm K
end Go.Proofs.YtjmlcobbjpmjpaaGreatDoor
namespace Go.Proofs.YtjmlcobbjpmjpaaGreatDoor
open Go.RowKit

theorem Sl.nn {w : World} {lo hi size n c : Nat} {t : TypeId} {A : Option Addr} {xs : List Value} (h : Sl w lo hi t size A n c xs) (hn : 0 < n) : A ≠ none := by
  obtain ⟨g, rfl, _⟩ := h.lt hn
  simp
/-- One element appended: what stands, block by block. -/
theorem wp_oneF {P : Program} {o : Oper} {a : Act} {Q : Exit → Act → World → Prop} {K : Act → World → Prop} (s x : Operand) (t : TypeId)
    (ho : o.op = .call { callee := .builtin .append, args := #[s, x], argTypes := #[t, t] })
    (e : TypeId) (zv : Value) (size bytes : Nat) (ht : P.underlying t = some (.slice e)) (hinfo : (P.info? e).map (fun i => (i.zero, i.size, i.bytes)) = some (some zv, size, bytes)) (hzs : zv.cells.size = size) (hsz : 0 < size) (hb : bytes ≤ 1000)
    {lo hi : Nat} {wr : World} {A : Option Addr} {m c : Nat} {xs : List Value} (h : Sl wr lo hi e size A m c xs) (hlo : lo ≤ wr.heap.size) (hs : a.eval s = .slice A m c)
    (news : List Value) (hd : Nat) (hhd : hd = wr.heap.size) (hx : a.eval x = .slice (some ⟨hd, 0, none⟩) 1 1) (hl : news.length = size) (h1 : ∀ u ∈ news, u.oneCell' = true) (hm : m < 100000000)
    (HK : ∀ A' c' w1, Sl w1 lo w1.heap.size e size A' (m + 1) c' (xs ++ news) → Below lo wr w1 → wr.heap.size + 1 ≤ w1.heap.size → (∀ g, g < wr.heap.size → (∀ ad, A = some ad → ad.block ≠ g) → w1.heap[g]? = wr.heap[g]?) → (∀ g, g < wr.heap.size → (∀ ad, A = some ad → ad.block ≠ g) → ∀ ad, A' = some ad → ad.block ≠ g) → K (a.put o.dst (.slice A' (m + 1) c')) w1) : o.wp P a (wr.alloc (.cells news.toArray e)) K Q := by
  subst hhd
  obtain ⟨i, hi', hz, hsize, hby⟩ := info_parts hinfo
  have hAb : ∀ ad, A = some ad → lo ≤ ad.block := fun ad had => by
    rcases h.form with ⟨h0, _⟩ | ⟨g, cur, hg, h2, _⟩
    · rw [h0] at had; cases had
    · rw [hg] at had; injection had with had; subst had; exact h2
  have hown : (wr.alloc (.cells news.toArray e)).ownsRow lo e size (.slice A m c) m xs := h.1.alloc _
  obtain ⟨v', w', hr, h2, h3, h4, h5⟩ := run_append_own_at (P := P) (wr.alloc (.cells news.toArray e)) lo t o.type e i zv size bytes ht hi' hz hsize hby hzs hsz _ m xs hown ⟨wr.heap.size, 0, none⟩ 1 1 news (by omega) (news_at wr news e) h1 (by unfold maxLen; omega) (by
    calc (m + 1) * bytes ≤ 100000000 * 1000 := Nat.mul_le_mul (by omega) hb
      _ ≤ 140737488355328 := by decide) (by simp; omega)
  unfold Oper.wp execOp
  simp only [ho, resolve, invoke, builtin, Sem.run_bind, Sem.run_pure, Result.andThen_ok, List.map_toArray, List.map_cons, List.map_nil, hs, hx, hr]
  have hfr : ∀ g, g < wr.heap.size → (∀ ad, A = some ad → ad.block ≠ g) → w'.heap[g]? = wr.heap[g]? := fun k hk hne => by
    rw [h3.block k (by simp; omega) (fun ee => ?_), Below.heap_alloc wr _ k (by omega)]
    cases A with
    | none => simp [Value.ownBlock] at ee
    | some ad =>
      simp [Value.ownBlock] at ee
      exact hne ad rfl ee.symm
  have hsz2 : wr.heap.size + 1 ≤ w'.heap.size := by have := h3.size; simpa using this
  have hbel : Below lo wr w' := by
    refine ⟨h3.os, h3.tape, h3.output, by omega, fun k hk => hfr k (by omega) (fun ad had => by have := hAb ad had; omega)⟩
  rcases h2.2 with ⟨hv, hn⟩ | ⟨g, cap, cur, hv, hb', hgg, hrest'⟩
  · omega
  · subst hv
    refine HK _ _ _ ⟨h2, fun ad had => by injection had with had; subst had; exact (Array.getElem?_eq_some_iff.1 hgg).1⟩ hbel hsz2 hfr (fun g' hg' hne ad had => ?_)
    injection had with had
    subst had
    rcases h5 with h5 | h5
    · cases A with
      | none => simp [Value.ownBlock] at h5
      | some ad =>
        simp [Value.ownBlock] at h5
        have := hne ad rfl
        simp; omega
    · simp [Value.ownBlock] at h5
      simp; omega
theorem wpList_oneF {P : Program} {ops : Array Oper} {rest : List Oper} {o : Oper} {a : Act} {Q : Exit → Act → World → Prop} (hgd : o.guard = none) (s x : Operand) (t : TypeId)
    (ho : o.op = .call { callee := .builtin .append, args := #[s, x], argTypes := #[t, t] })
    (e : TypeId) (zv : Value) (size bytes : Nat) (ht : P.underlying t = some (.slice e)) (hinfo : (P.info? e).map (fun i => (i.zero, i.size, i.bytes)) = some (some zv, size, bytes)) (hzs : zv.cells.size = size) (hsz : 0 < size) (hb : bytes ≤ 1000)
    {lo hi : Nat} {wr : World} {A : Option Addr} {m c : Nat} {xs : List Value} (h : Sl wr lo hi e size A m c xs) (hlo : lo ≤ wr.heap.size) (hs : a.eval s = .slice A m c)
    (news : List Value) (hd : Nat) (hhd : hd = wr.heap.size) (hx : a.eval x = .slice (some ⟨hd, 0, none⟩) 1 1) (hl : news.length = size) (h1 : ∀ u ∈ news, u.oneCell' = true) (hm : m < 100000000)
    (HK : ∀ A' c' w1, Sl w1 lo w1.heap.size e size A' (m + 1) c' (xs ++ news) → Below lo wr w1 → wr.heap.size + 1 ≤ w1.heap.size → (∀ g, g < wr.heap.size → (∀ ad, A = some ad → ad.block ≠ g) → w1.heap[g]? = wr.heap[g]?) → (∀ g, g < wr.heap.size → (∀ ad, A = some ad → ad.block ≠ g) → ∀ ad, A' = some ad → ad.block ≠ g) → wpList P ops Q rest (a.put o.dst (.slice A' (m + 1) c')) w1) : wpList P ops Q (o :: rest) a (wr.alloc (.cells news.toArray e)) := by
  have hw : Region.wanted o (yielded ops a.tmps) = true := by simp [Region.wanted, hgd]
  unfold wpList
  rw [if_pos hw]
  refine Or.inl ?_
  exact wp_oneF s x t ho e zv size bytes ht hinfo hzs hsz hb h hlo hs news hd hhd hx hl h1 hm HK

end Go.Proofs.YtjmlcobbjpmjpaaGreatDoor
namespace Go.Proofs.YtjmlcobbjpmjpaaGreatDoor
open Go.RowKit Go.ChangeShapes Go.WideShapes Go.Deep

def byts (l : List Int) : List Value := l.map (.int .u8)
theorem byts_length (l : List Int) : (byts l).length = l.length := by simp [byts]
theorem byts_get {l : List Int} {i : Nat} {x : Int} (h : l[i]? = some x) : (byts l)[i]? = some (.int .u8 x) := by simp [byts, h]
def Byt (x : Int) : Prop := 0 ≤ x ∧ x ≤ 255
theorem byts_flat (l : List Int) : l.flatMap (fun x => [Value.int .u8 x]) = byts l := by
  induction l with
  | nil => rfl
  | cons a l ih => simp [byts] at ih ⊢; exact ih
section
variable {H : Type} {enc : TypeId × Value → H} {w : World}
theorem open_code {d : DataW H} {p : List MemPlace} {A : Option Addr} {len cap : Nat} (h : DataW.Trod enc Tryz.prog w 0 (fun _ => true) true 22 (.slice A len cap) d p) :
    ∃ l : List Int, len ≤ 9223372036854775807 ∧ Reads w w.heap.size 1 A len (byts l) ∧ ∀ x ∈ l, Byt x := by
  obtain ⟨fuel, hf⟩ := h
  obtain ⟨A', len', cap', l, hcs, hn, hr, hg⟩ := open_list (fun x : Int => [Value.int .u8 x]) 1 Byt (fun _ => rfl) Tryz.underlying22 (by kernel_rfl) (by omega) (fun n cs' y hl ht => by
    obtain ⟨v, rfl⟩ := List.length_eq_one_iff.1 hl
    obtain ⟨x0, rfl, hw⟩ := field_int Tryz.underlying5 ht
    exact ⟨x0, rfl, bounds_u8 hw⟩) hf
  simp [Value.cells] at hcs
  obtain ⟨rfl, rfl, rfl⟩ := hcs
  rw [byts_flat] at hr
  exact ⟨l, hn, hr, hg⟩
end

/-- The source lies in block g; it has been asked at most k times; its code lies below it. -/
def Src (g k : Nat) (w : World) : Prop :=
  ∃ (A : Option Addr) (n c : Nat) (bs : List Int) (a : Nat) (sd : Int), Blk w g 157 #[.slice A n c, .int .i64 (a : Int), .int .u64 sd] ∧ Reads w g 1 A n (byts bs) ∧ a ≤ k ∧ (∀ x ∈ bs, Byt x) ∧ n ≤ 9223372036854775807 ∧ 0 ≤ sd ∧ sd ≤ 18446744073709551615
section
variable {g k k' lo hi : Nat} {w w' : World}
theorem Src.lt (h : Src g k w) : g < w.heap.size := by obtain ⟨_, _, _, _, _, _, h, _⟩ := h; exact h.lt
theorem Src.keep (h : Src g k w) (hk : ∀ i, i < g + 1 → w'.heap[i]? = w.heap[i]?) : Src g k w' := by
  obtain ⟨A, n, c, bs, a, sd, h1, h2, h3⟩ := h
  exact ⟨A, n, c, bs, a, sd, (hk g (by omega)).trans h1, h2.keep fun p hp => World.cell?_of_block (hk p.block (by omega)), h3⟩
theorem Src.on (h : Src g k w) (hb : Below w.heap.size w w') : Src g k w' := h.keep fun i hi => hb.block i (by have := h.lt; omega)
theorem Src.below {B : Nat} (h : Src g k w) (hb : Below B w w') (hg : g < B) : Src g k w' := h.keep fun i hi => hb.block i (by omega)
theorem Src.apart (h : Src g k w) (ho : Only lo hi w w') (hg : g < lo) : Src g k w' := h.keep fun i hi => ho.block i (by have := h.lt; omega) (by omega)
theorem Src.more (h : Src g k w) (hk : k ≤ k') : Src g k' w := by
  obtain ⟨A, n, c, bs, a, sd, h1, h2, h3, h4⟩ := h
  exact ⟨A, n, c, bs, a, sd, h1, h2, by omega, h4⟩
theorem Src.alloc (h : Src g k w) (o : Obj) : Src g k (w.alloc o) := h.keep fun i hi => Below.heap_alloc w o i (by have := h.lt; omega)
theorem Src.set_ (h : Src g k w) {p : Addr} (hp : g < p.block) (u : Value) : Src g k (w.setCell p u) := h.keep fun i hi => Below.heap_setCell w p u i (by omega)
end
/-- A cell of a block that is younger. -/
theorem Only.far {lo hi : Nat} {a w : World} (h : Only lo hi a w) {p : Addr} (hp : a.heap.size ≤ p.block) (u : Value) : Only lo hi a (w.setCell p u) :=
  ⟨h.os, h.tape, h.output, by simpa [World.setCell] using h.size, fun i hi' hd => (Below.heap_setCell w p u i (by omega)).trans (h.block i hi' hd)⟩
theorem Only.then {lo hi B : Nat} {a w w' : World} (h : Only lo hi a w) (hb : Below B w w') (hB : a.heap.size ≤ B) : Only lo hi a w' :=
  ⟨hb.os.trans h.os, hb.tape.trans h.tape, hb.output.trans h.output, Nat.le_trans h.size hb.size, fun i hi' hd => (hb.block i (by omega)).trans (h.block i hi' hd)⟩
theorem Sl.farSet {w : World} {lo hi size n c : Nat} {t : TypeId} {A : Option Addr} {xs : List Value} (h : Sl w lo hi t size A n c xs) {p : Addr} (hp : hi ≤ p.block) (u : Value) : Sl (w.setCell p u) lo hi t size A n c xs := h.keep fun b _ h2 _ => Below.heap_setCell w p u b (by omega)
theorem Sl.up {w : World} {lo hi size n c : Nat} {t : TypeId} {A : Option Addr} {xs : List Value} (h : Sl w lo hi t size A n c xs) (o : Obj) : Sl (w.alloc o) lo hi t size A n c xs := h.on ((Below.refl _ _).alloc (Nat.le_refl _) _)
theorem src_new {w : World} {A : Option Addr} {n c : Nat} {bs : List Int} (h : Reads w w.heap.size 1 A n (byts bs)) (hb : ∀ x ∈ bs, Byt x) (hn : n ≤ 9223372036854775807) :
    Src w.heap.size 0 (w.alloc (.cells #[.slice A n c, .int .i64 0, .int .u64 0] 157)) :=
  ⟨A, n, c, bs, 0, 0, Blk.new w _ _, h.on (Nat.le_refl _) ((Below.refl _ _).alloc (Nat.le_refl _) _), Nat.le_refl _, hb, hn, by omega, by omega⟩
/-- What a pick of n numbers may be. -/
def PickR (n x : Int) : Prop := 0 ≤ x ∧ (n ≤ 1 → x = 0) ∧ (1 < n → x < n) ∧ x ≤ 65535
theorem PickR.lt {n x : Int} (h : PickR n x) (hn : 0 < n) : x < n := by
  rcases Int.lt_or_le 1 n with h1 | h1
  · exact h.2.2.1 h1
  · have := h.2.1 h1; omega
theorem pickR_mod {n y : Int} (h0 : 0 ≤ y) (h1 : y ≤ 65535) (hn : 1 < n) : PickR n (y % n) := by
  have a := Int.emod_nonneg y (show n ≠ 0 by omega)
  have b := Int.emod_lt_of_pos y (show 0 < n by omega)
  refine ⟨a, by omega, fun _ => b, ?_⟩
  rcases Int.lt_or_le y n with h | h
  · rw [Int.emod_eq_of_lt h0 h]; exact h1
  · omega
end Go.Proofs.YtjmlcobbjpmjpaaGreatDoor
namespace Go.Proofs.YtjmlcobbjpmjpaaGreatDoor
open Go.RowKit Go.Lib Go.Sort

theorem info_str : (Tryz.prog.info? 9).map (fun i => (i.zero, i.size, i.bytes)) = some (some (.string ⟨#[]⟩), 1, 16) := by kernel_rfl
theorem Sl.cut {w : World} {lo hi n k c : Nat} {t : TypeId} {A : Option Addr} {xs : List Value} (h : Sl w lo hi t 1 A n c xs) (hk : k ≤ n) : Sl w lo hi t 1 A k c (xs.take k) := by
  have hl := h.len
  refine ⟨⟨by rw [List.length_take]; omega, ?_⟩, h.2⟩
  rcases h.1.2 with ⟨hn, h0⟩ | ⟨g, cap, cur, h', hb, hg, hnc, hm, hcs, ht⟩
  · injection hn with e1 e2 e3
    subst e1 e3
    exact .inl ⟨by rw [show k = 0 by omega], by omega⟩
  · injection h' with e1 e2 e3
    subst e1 e3
    exact .inr ⟨g, c, cur, rfl, hb, hg, by omega, hm, hcs, by rw [← ht, List.take_take, Nat.mul_one, Nat.mul_one, Nat.min_eq_left hk]⟩
theorem below_grown {w w' : World} {g lo : Nat} (h : w.grownBy w' (some g)) (hg : lo ≤ g) (hlo : lo ≤ w.heap.size) : Below lo w w' := ⟨h.os, h.tape, h.output, h.size, fun k hk => h.block k (by omega) (by intro e; injection e with e; omega)⟩

set_option maxHeartbeats 4000000 in
set_option maxRecDepth 100000 in
theorem clientsBooked_any (A : Option Addr) (n c B : Nat) (l : List Bk) (w : World) (h : Reads w B 3 A n (bks l)) (hB : B ≤ w.heap.size) (hn : n ≤ 1048576) :
    Calls Tryz.prog 75 #[.slice A n c] w fun e w' => ∃ A' m d, e = .returned (.slice A' m d) ∧ Sl w' w.heap.size w'.heap.size 9 1 A' m d (strs (namesB l)) ∧ Below w.heap.size w w' := by
  have hl := Lib.hid (bks_len h)
  have HSL0 := Lib.hid (Sl.made w 9 1)
  go_enter Tryz.func75, Tryz.ntmps75
  go_wp2
  go_loopw [3, 9] (fun o i wr => ∃ (k : Nat) (A' : Option Addr) (d : Nat), k ≤ n ∧ i = .int .i64 (k : Int) ∧ o = .slice A' k d ∧ Sl wr w.heap.size wr.heap.size 9 1 A' k d (strs ((l.take k).map (·.client))) ∧ Below w.heap.size w wr) (fun _ i _ => n - (intOf i).toNat)
  case atStart => exact ⟨0, _, 0, Nat.zero_le _, rfl, rfl, by simpa [strs] using HSL0.out.wide (Nat.le_refl _) (hi' := (w.alloc (.cells #[] 9)).heap.size) (by simp), (Below.refl _ _).alloc (Nat.le_refl _) _⟩
  case round =>
    obtain ⟨k, A', d, hk, rfl, rfl, hsl, hbel⟩ := hrel
    have HSL := Lib.hid hsl
    have HB := Lib.hid hbel
    have zr := hbel.size
    clear hsl hbel
    by_cases hlt : k < n
    · obtain ⟨x, b, off, he, rfl, hb, c0, c1, c2⟩ := bk_at (h.on hB HB.out) hlt
      have hx1 : strs ((l.take (k + 1)).map (·.client)) = strs ((l.take k).map (·.client)) ++ [.string x.client] := by rw [List.take_add_one, he]; simp [strs]
      have HX := Lib.hid hx1
      obtain ⟨wv, hwv⟩ : ∃ z, wr.alloc (.cells #[.int .i64 x.day, .string x.client, .int .i64 x.amount] 26) = z := ⟨_, rfl⟩
      have bv : Below wr.heap.size wr wv := by rw [← hwv]; exact (Below.refl _ _).alloc (Nat.le_refl _) _
      have yv : Blk wv wr.heap.size 26 #[.int .i64 x.day, .string x.client, .int .i64 x.amount] := by rw [← hwv]; exact Blk.new _ _ _
      have v1 := yv.cellAt 1 (by simp)
      simp only [List.getElem_toArray, List.getElem_cons_zero, List.getElem_cons_succ] at v1
      have zv := bv.size
      have HSLv := Lib.hid (HSL.out.on bv)
      have HBv := Lib.hid (bnext HB.out bv (by omega))
      clear he hx1 bv yv
      go_wp2_with (at_builtin; clear hwv; refine wpList_oneF rfl _ _ 36 rfl 9 _ 1 16 Tryz.underlying36 info_str rfl (by decide) (by decide) HSLv.out (by omega) rfl [.string x.client] _ rfl rfl rfl (fun u hu => by simp at hu; subst hu; rfl) (by omega) ?_; intro A7 d7 w7 sl7 b7 z7 f7 g7; have HSL7 := Lib.hid sl7; have HB7 := Lib.hid b7; clear sl7 b7 f7 g7)
      go_roundw
      case rel => exact ⟨k + 1, A7, d7, by omega, by go_num, rfl, by rw [HX.out]; exact HSL7.out, HBv.out.trans HB7.out⟩
      case measure => simp [intOf]; omega
    · obtain rfl : k = n := by omega
      have hall : l.take k = l := List.take_of_length_le (by have := hl.out; omega)
      rcases Nat.eq_zero_or_pos k with h0 | h0
      · obtain rfl := h0
        have hnil : l = [] := List.length_eq_zero_iff.1 hl.out
        go_wp2_with fail
        refine (Tryz.slices_Sort_string_none _ _ _).mono ?_
        rintro e w' ⟨rfl, hw⟩
        rw [hw]
        clear hw
        go_wp2_with fail
        refine (Tryz.slices_Compact_string_empty _ _ _).mono ?_
        rintro e w' ⟨rfl, hw⟩
        rw [hw]
        clear hw
        go_wp2
        go_ret
        refine ⟨_, 0, _, rfl, ?_, HB.out⟩
        have := HSL.out
        rw [hnil] at this ⊢
        simpa [namesB, uniqB, sortB, Lib.compact, Lib.compactUpTo, strs] using this
      · rcases HSL.out.form with ⟨_, h1, _⟩ | ⟨g, cur, rfl, hg1, hg2, hblk, hnc, hcs, ht⟩
        · omega
        · rw [hall, strs_enc, Nat.mul_one] at ht
          have hmx : d ≤ maxLen := by
            rcases HSL.out.1.2 with ⟨hn', h1⟩ | ⟨g', cap, cur', h', _, _, _, h5, _⟩
            · omega
            · injection h' with _ _ e3; rw [e3]; exact h5
          have hll : ((l.map fun b : Bk => b.client).map bl).length = k := by simp; exact hl.out
          have hH : Holds encStr wr g 0 ((l.map fun b : Bk => b.client).map bl).toArray := holds_of_block hblk (by rw [hll]; exact ht)
          have hsort := Tryz.slices_Sort_string g 0 d ((l.map fun b : Bk => b.client).map bl) wr hH hblk.lt (by rw [hll]; omega)
          rw [hll] at hsort
          have HS := Lib.hid hsort
          have HO := Lib.hid (fun (q : Nat) (os : Array Obj) => ownsRow_sorted (n := q) (os := os) (e := 9) (ss := (l.map fun b : Bk => b.client).map bl) (ts := sortB (l.map fun b : Bk => b.client)) (base := w.heap.size) (by rw [sortB_len]; simp) hg1 hblk (by rw [hll]; exact hnc) hmx hcs)
          clear hsort hH ht hblk
          go_wp2_with fail
          refine HS.out.mono ?_
          rintro e w5 ⟨rfl, q, os, hw5⟩
          have b5 : Below w.heap.size wr w5 := by rw [hw5]; exact below_grown (grownBy_sorted _) hg1 zr
          have HB5 := Lib.hid (HB.out.trans b5)
          have o5 := HO.out q os
          have e5 : grow (putRow encStr (Sort.ahead wr q) g 0 (sortB (l.map fun b : Bk => b.client)).toArray) os = w5 := hw5.symm
          rw [e5, hll] at o5
          have z5 := b5.size
          have sl5 : Sl w5 w.heap.size w5.heap.size 9 1 (some ⟨g, 0, none⟩) k d ((sortB (l.map fun b : Bk => b.client)).map encStr) := ⟨o5, fun ad had => by injection had with had; subst had; simp only; omega⟩
          clear hw5 e5 o5 b5
          obtain ⟨cur5, hblk5, hcs5, ht5⟩ : ∃ cur5, Blk w5 g 9 cur5 ∧ cur5.size = d * 1 ∧ cur5.toList.take (k * 1) = (sortB (l.map fun b : Bk => b.client)).map encStr := by
            rcases sl5.form with ⟨h1, _⟩ | ⟨g', cur5, h1, _, _, h2, _, h3, h4⟩
            · cases h1
            · injection h1 with h1; injection h1 with h1; subst h1; exact ⟨cur5, h2, h3, h4⟩
          have hsl : (sortB (l.map fun b : Bk => b.client)).length = k := by rw [sortB_len]; simp; exact hl.out
          have hH5 : Holds encStr w5 g 0 (sortB (l.map fun b : Bk => b.client)).toArray := holds_of_block hblk5 (by rw [hsl, ← ht5, Nat.mul_one])
          have hcmp := Tryz.slices_Compact_string g 0 d (sortB (l.map fun b : Bk => b.client)) w5 hH5 (by omega) (by omega)
          rw [hsl] at hcmp
          have hcl : (Lib.compact (sortB (l.map fun b : Bk => b.client))).length ≤ k := by
            have := (uniqB_facts (l.map fun b : Bk => b.client)).2.2
            unfold uniqB at this
            rw [List.length_map, List.length_map, hl.out] at this
            exact this
          have HC := Lib.hid hcmp
          have HO5 := Lib.hid (fun (q : Nat) (ts : List (List UInt8)) (hts : ts.length = (sortB (l.map fun b : Bk => b.client)).length) => ownsRow_sorted (n := q) (os := #[]) (e := 9) (ss := sortB (l.map fun b : Bk => b.client)) (ts := ts) (base := w.heap.size) hts hg1 hblk5 (by omega) hmx hcs5)
          have HSL := Lib.hid hsl
          have hg5 := hblk5.lt
          clear hcmp hH5 ht5 hblk5 sl5 hsl HS HO
          go_wp2_with fail
          refine HC.out.mono ?_
          rintro e w6 ⟨rfl, q2, hw6⟩
          have b6 : Below w.heap.size w5 w6 := by
            rw [hw6, ← grow_empty (putRow encStr (Sort.ahead w5 q2) g 0 _)]
            exact below_grown (grownBy_sorted _) hg1 (by omega)
          have HB6 := Lib.hid (HB5.out.trans b6)
          have z6 := b6.size
          have o6 := HO5.out q2 (Lib.compact (sortB (l.map fun b : Bk => b.client)) ++ List.replicate (k - (Lib.compact (sortB (l.map fun b : Bk => b.client))).length) []) (by rw [List.length_append, List.length_replicate, HSL.out]; omega)
          rw [grow_empty, ← hw6, HSL.out] at o6
          have sl6 : Sl w6 w.heap.size w6.heap.size 9 1 (some ⟨g, 0, none⟩) k d ((Lib.compact (sortB (l.map fun b : Bk => b.client)) ++ List.replicate (k - (Lib.compact (sortB (l.map fun b : Bk => b.client))).length) []).map encStr) := ⟨o6, fun ad had => by injection had with had; subst had; simp only; omega⟩
          have HS6 := Lib.hid (show Sl w6 w.heap.size w6.heap.size 9 1 (some ⟨g, 0, none⟩) (Lib.compact (sortB (l.map fun b : Bk => b.client))).length d (strs (namesB l)) by
            have := sl6.cut hcl
            rw [List.map_append, List.take_left' (by simp)] at this
            unfold namesB uniqB
            rw [strs_unbl]
            exact this)
          clear hw6 b6 o6 sl6 HC HO5
          go_wp2
          go_ret
          exact ⟨_, _, _, rfl, HS6.out, HB6.out⟩
end Go.Proofs.YtjmlcobbjpmjpaaGreatDoor
namespace Go.Proofs.YtjmlcobbjpmjpaaGreatDoor
open Go.RowKit

def okBk (x : Bk) : Bool := inR x.day 0 20000 && isName x.client && inR x.amount (-1000000000) 1000000000 && decide (x.amount ≠ 0)
theorem okBk_iff {x : Bk} : okBk x = true ↔ (0 ≤ x.day ∧ x.day ≤ 20000) ∧ isName x.client = true ∧ (-1000000000 ≤ x.amount ∧ x.amount ≤ 1000000000) ∧ x.amount ≠ 0 := by
  simp only [okBk, Bool.and_eq_true, inR_true, decide_eq_true_eq]
  constructor
  · rintro ⟨⟨⟨a, b⟩, c⟩, d⟩; exact ⟨a, b, c, d⟩
  · rintro ⟨a, b, c, d⟩; exact ⟨⟨⟨a, b⟩, c⟩, d⟩
/-- Row i of a list: a booking that is right, and no earlier than the one ahead of it. -/
def rowBk (l : List Bk) (i : Nat) : Bool := match l[i]? with
  | none => false
  | some x => okBk x && (decide (i = 0) || (match l[i - 1]? with | none => false | some y => decide (y.day ≤ x.day)))
theorem rowBk_bad {l : List Bk} {i : Nat} {x : Bk} (h : l[i]? = some x) (hx : okBk x = false) : rowBk l i = false := by simp [rowBk, h, hx]
theorem rowBk_zero {l : List Bk} {x : Bk} (h : l[0]? = some x) (hx : okBk x = true) : rowBk l 0 = true := by simp [rowBk, h, hx]
theorem rowBk_ok {l : List Bk} {i : Nat} {x y : Bk} (h : l[i]? = some x) (hx : okBk x = true) (hy : l[i - 1]? = some y) (hd : y.day ≤ x.day) : rowBk l i = true := by simp [rowBk, h, hx, hy, hd]
theorem rowBk_late {l : List Bk} {i : Nat} {x y : Bk} (h : l[i]? = some x) (h0 : 0 < i) (hy : l[i - 1]? = some y) (hd : ¬ y.day ≤ x.day) : rowBk l i = false := by
  have : i ≠ 0 := by omega
  simp [rowBk, h, hy, hd, this]
def okBks (l : List Bk) : Bool := (List.range l.length).all (rowBk l) && decide (l.length ≤ 80)
theorem range_at {n k : Nat} (h : k < n) : (List.range n)[k]? = some k := by simp [h]

theorem validBooking_any (x : Bk) (w : World) (hs : x.client.size ≤ 9223372036854775807) :
    Calls Tryz.prog 62 #[.agg #[.int .i64 x.day, .string x.client, .int .i64 x.amount]] w fun e w' => e = .returned (.bool (okBk x)) ∧ Below w.heap.size w w' := by
  by_cases h1 : inR x.day 0 20000 = true
  · by_cases h2 : isName x.client = true
    · by_cases h3 : inR x.amount (-1000000000) 1000000000 = true
      · by_cases h4 : x.amount = 0
        · have h5 : (x.amount != 0) = false := by simp [h4]
          have HO := Lib.hid (show okBk x = false by simp [okBk, h4])
          clear h4
          go_enter Tryz.func62, Tryz.ntmps62
          go_wp2_with (first | (go_at_call 134; refine (isBookDay_any _ _).mono ?_; rintro e w' ⟨rfl, rfl⟩) | (go_at_call 135; refine (implIsName_any _ _ hs).mono ?_; rintro e w' ⟨rfl, rfl⟩) | (go_at_call 101; refine (within_any _ _ _ _).mono ?_; rintro e w' ⟨rfl, rfl⟩))
          go_ret
          exact ⟨ret_bool HO.out.symm, (Below.refl _ _).alloc (Nat.le_refl _) _⟩
        · have h5 : (x.amount != 0) = true := by rw [bne_iff_ne]; exact h4
          have HO := Lib.hid (show okBk x = true by simp [okBk, h1, h2, h3, h4])
          clear h4
          go_enter Tryz.func62, Tryz.ntmps62
          go_wp2_with (first | (go_at_call 134; refine (isBookDay_any _ _).mono ?_; rintro e w' ⟨rfl, rfl⟩) | (go_at_call 135; refine (implIsName_any _ _ hs).mono ?_; rintro e w' ⟨rfl, rfl⟩) | (go_at_call 101; refine (within_any _ _ _ _).mono ?_; rintro e w' ⟨rfl, rfl⟩))
          go_ret
          exact ⟨ret_bool HO.out.symm, (Below.refl _ _).alloc (Nat.le_refl _) _⟩
      · have h3 : inR x.amount (-1000000000) 1000000000 = false := by simpa using h3
        have HO := Lib.hid (show okBk x = false by simp [okBk, h3])
        go_enter Tryz.func62, Tryz.ntmps62
        go_wp2_with (first | (go_at_call 134; refine (isBookDay_any _ _).mono ?_; rintro e w' ⟨rfl, rfl⟩) | (go_at_call 135; refine (implIsName_any _ _ hs).mono ?_; rintro e w' ⟨rfl, rfl⟩) | (go_at_call 101; refine (within_any _ _ _ _).mono ?_; rintro e w' ⟨rfl, rfl⟩))
        go_ret
        exact ⟨ret_bool HO.out.symm, (Below.refl _ _).alloc (Nat.le_refl _) _⟩
    · have h2 : isName x.client = false := by simpa using h2
      have HO := Lib.hid (show okBk x = false by simp [okBk, h2])
      go_enter Tryz.func62, Tryz.ntmps62
      go_wp2_with (first | (go_at_call 134; refine (isBookDay_any _ _).mono ?_; rintro e w' ⟨rfl, rfl⟩) | (go_at_call 135; refine (implIsName_any _ _ hs).mono ?_; rintro e w' ⟨rfl, rfl⟩) | (go_at_call 101; refine (within_any _ _ _ _).mono ?_; rintro e w' ⟨rfl, rfl⟩))
      go_ret
      exact ⟨ret_bool HO.out.symm, (Below.refl _ _).alloc (Nat.le_refl _) _⟩
  · have h1 : inR x.day 0 20000 = false := by simpa using h1
    have HO := Lib.hid (show okBk x = false by simp [okBk, h1])
    go_enter Tryz.func62, Tryz.ntmps62
    go_wp2_with (first | (go_at_call 134; refine (isBookDay_any _ _).mono ?_; rintro e w' ⟨rfl, rfl⟩) | (go_at_call 135; refine (implIsName_any _ _ hs).mono ?_; rintro e w' ⟨rfl, rfl⟩) | (go_at_call 101; refine (within_any _ _ _ _).mono ?_; rintro e w' ⟨rfl, rfl⟩))
    go_ret
    exact ⟨ret_bool HO.out.symm, (Below.refl _ _).alloc (Nat.le_refl _) _⟩

theorem l25One_any (x : Bk) (b off : Nat) (w : World) (hs : x.client.size ≤ 9223372036854775807) (c0 : w.cell? ⟨b, off, none⟩ = some (.int .i64 x.day)) (c1 : w.cell? ⟨b, off + 1, none⟩ = some (.string x.client)) (c2 : w.cell? ⟨b, off + 2, none⟩ = some (.int .i64 x.amount)) :
    Calls Tryz.prog 68 #[.pointer (some ⟨b, off, none⟩)] w fun e w' => e = .returned (.bool (okBk x)) ∧ w = w' := by
  by_cases h1 : inR x.day 0 20000 = true
  · by_cases h2 : isName x.client = true
    · by_cases h3 : inR x.amount (-1000000000) 1000000000 = true
      · by_cases h4 : x.amount = 0
        · have h5 : (x.amount != 0) = false := by simp [h4]
          have HO := Lib.hid (show okBk x = false by simp [okBk, h4])
          clear h4
          go_enter Tryz.func68, Tryz.ntmps68
          go_wp2_with (first | (go_at_call 80; refine (l25Day_any _ _).mono ?_; rintro e w' ⟨rfl, rfl⟩) | (go_at_call 138; refine (specIsName_any _ _ hs).mono ?_; rintro e w' ⟨rfl, rfl⟩) | (go_at_call 102; refine (l00In_any _ _ _ _).mono ?_; rintro e w' ⟨rfl, rfl⟩))
          go_ret
          exact ⟨ret_bool HO.out.symm, rfl⟩
        · have h5 : (x.amount != 0) = true := by rw [bne_iff_ne]; exact h4
          have HO := Lib.hid (show okBk x = true by simp [okBk, h1, h2, h3, h4])
          clear h4
          go_enter Tryz.func68, Tryz.ntmps68
          go_wp2_with (first | (go_at_call 80; refine (l25Day_any _ _).mono ?_; rintro e w' ⟨rfl, rfl⟩) | (go_at_call 138; refine (specIsName_any _ _ hs).mono ?_; rintro e w' ⟨rfl, rfl⟩) | (go_at_call 102; refine (l00In_any _ _ _ _).mono ?_; rintro e w' ⟨rfl, rfl⟩))
          go_ret
          exact ⟨ret_bool HO.out.symm, rfl⟩
      · have h3 : inR x.amount (-1000000000) 1000000000 = false := by simpa using h3
        have HO := Lib.hid (show okBk x = false by simp [okBk, h3])
        go_enter Tryz.func68, Tryz.ntmps68
        go_wp2_with (first | (go_at_call 80; refine (l25Day_any _ _).mono ?_; rintro e w' ⟨rfl, rfl⟩) | (go_at_call 138; refine (specIsName_any _ _ hs).mono ?_; rintro e w' ⟨rfl, rfl⟩) | (go_at_call 102; refine (l00In_any _ _ _ _).mono ?_; rintro e w' ⟨rfl, rfl⟩))
        go_ret
        exact ⟨ret_bool HO.out.symm, rfl⟩
    · have h2 : isName x.client = false := by simpa using h2
      have HO := Lib.hid (show okBk x = false by simp [okBk, h2])
      go_enter Tryz.func68, Tryz.ntmps68
      go_wp2_with (first | (go_at_call 80; refine (l25Day_any _ _).mono ?_; rintro e w' ⟨rfl, rfl⟩) | (go_at_call 138; refine (specIsName_any _ _ hs).mono ?_; rintro e w' ⟨rfl, rfl⟩) | (go_at_call 102; refine (l00In_any _ _ _ _).mono ?_; rintro e w' ⟨rfl, rfl⟩))
      go_ret
      exact ⟨ret_bool HO.out.symm, rfl⟩
  · have h1 : inR x.day 0 20000 = false := by simpa using h1
    have HO := Lib.hid (show okBk x = false by simp [okBk, h1])
    go_enter Tryz.func68, Tryz.ntmps68
    go_wp2_with (first | (go_at_call 80; refine (l25Day_any _ _).mono ?_; rintro e w' ⟨rfl, rfl⟩) | (go_at_call 138; refine (specIsName_any _ _ hs).mono ?_; rintro e w' ⟨rfl, rfl⟩) | (go_at_call 102; refine (l00In_any _ _ _ _).mono ?_; rintro e w' ⟨rfl, rfl⟩))
    go_ret
    exact ⟨ret_bool HO.out.symm, rfl⟩

theorem l25Ok_any (A : Option Addr) (n c B : Nat) (l : List Bk) (w : World) (h : Reads w B 3 A n (bks l)) (hn : n ≤ 1048576) (hB : B ≤ w.heap.size) (hsm : ∀ x ∈ l, x.small) :
    Calls Tryz.prog 67 #[.slice A n c] w fun e w' => e = .returned (.bool (okBks l)) ∧ Below w.heap.size w w' := by
  have hl := Lib.hid (bks_len h)
  have HSM := Lib.hid hsm
  clear hsm
  go_enter Tryz.func67, Tryz.ntmps67
  go_wp2
  go_loopw [3] (fun i wr => ∃ k : Nat, k ≤ n ∧ i = .int .i64 k ∧ AllTo (rowBk l) (List.range n) k ∧ Below w.heap.size w wr) (fun i _ => n - (intOf i).toNat)
  case atStart => exact ⟨0, Nat.zero_le _, rfl, AllTo.zero _ _, Below.refl _ _⟩
  case round =>
    obtain ⟨k, hk, rfl, hall, hbel⟩ := hrel
    have HA := Lib.hid hall
    have HBe := Lib.hid hbel
    clear hall
    by_cases hlt : k < n
    · obtain ⟨x, b, off, he, rfl, hb, c0, c1, c2⟩ := bk_at (h.on hB hbel) hlt
      have hs : x.client.size ≤ 9223372036854775807 := by have := HSM.out x (List.mem_of_getElem? he); unfold Bk.small at this; omega
      have hone : ∀ W, (∃ m, W = wr.drewN m) → Calls Tryz.prog 68 #[.pointer (some ⟨b, off + k * 3, none⟩)] W fun e w' => e = .returned (.bool (okBk x)) ∧ W = w' := fun W ⟨m, hW⟩ => by subst hW; exact l25One_any x b _ _ hs c0 c1 c2
      have HOne := Lib.hid hone
      have HE := Lib.hid he
      have hi0 : (0 : Int) ≤ k := by omega
      have hi1 : (k : Int) < n := by omega
      by_cases hx : okBk x = true
      · by_cases hk0 : k = 0
        · subst hk0
          have HR := Lib.hid (rowBk_zero HE.out hx)
          clear he hone h hbel c1 c2 HE
          have hg0 : decide ((0 : Int) < ((0 : Nat) : Int)) = false := by decide
          go_wp2_with fail
          go_quiet ((go_at_call 68; exact Calls.quiet_of_same ((HOne.out _ ⟨_, rfl⟩).mono fun _ _ hh => ⟨hh.1, hh.2.symm⟩)))
          go_wp2
          go_roundw
          case rel => exact ⟨1, by omega, by go_num, HA.out.step (range_at hlt) HR.out, below_drewN HBe.out _⟩
          case measure => simp [intOf]; omega
        · obtain ⟨j, rfl⟩ : ∃ j, k = j + 1 := ⟨k - 1, by omega⟩
          obtain ⟨y, b', off', hy, e2, hb', d0, d1, d2⟩ := bk_at (k := j) (h.on hB hbel) (by omega)
          injection e2 with e2; injection e2 with e2 e2'; subst e2; subst e2'
          have hj0 : (0 : Int) ≤ j := by omega
          have hj1 : (j : Int) < n := by omega
          have hj2 : (j : Int) + 1 < n := by omega
          have hg0 : decide ((0 : Int) < (j : Int) + 1) = true := decide_eq_true (by omega)
          by_cases hd : y.day ≤ x.day
          · have HR := Lib.hid (rowBk_ok HE.out hx (by simpa using hy) hd)
            clear he hone h hbel c1 c2 d1 d2 hy hk0 HE
            go_wp2_with fail
            go_quiet ((go_at_call 68; exact Calls.quiet_of_same ((HOne.out _ ⟨_, rfl⟩).mono fun _ _ hh => ⟨hh.1, hh.2.symm⟩)))
            go_wp2
            go_roundw
            case rel => exact ⟨j + 1 + 1, by omega, by go_num, HA.out.step (range_at hlt) HR.out, below_drewN HBe.out _⟩
            case measure => simp [intOf]; omega
          · have HO := Lib.hid (show okBks l = false by simp only [okBks, all_bad (range_at (show j + 1 < l.length by have := hl.out; omega)) (rowBk_late HE.out (by omega) (by simpa using hy) hd), Bool.false_and])
            have hd : x.day < y.day := by omega
            clear he hone h hbel c1 c2 d1 d2 hy hk0 HE
            go_wp2_with fail
            go_quiet ((go_at_call 68; exact Calls.quiet_of_same ((HOne.out _ ⟨_, rfl⟩).mono fun _ _ hh => ⟨hh.1, hh.2.symm⟩)))
            go_wp2
            go_ret
            exact ⟨ret_bool HO.out.symm, below_drewN HBe.out _⟩
      · have hx : okBk x = false := by simpa using hx
        have HO := Lib.hid (show okBks l = false by simp only [okBks, all_bad (range_at (show k < l.length by have := hl.out; omega)) (rowBk_bad HE.out hx), Bool.false_and])
        clear he hone h hbel c0 c1 c2 HE
        go_wp2_with fail
        go_quiet ((go_at_call 68; exact Calls.quiet_of_same ((HOne.out _ ⟨_, rfl⟩).mono fun _ _ hh => ⟨hh.1, hh.2.symm⟩)))
        go_wp2
        go_ret
        exact ⟨ret_bool HO.out.symm, below_drewN HBe.out _⟩
    · obtain rfl : k = n := by omega
      have HO := Lib.hid (show okBks l = decide (k ≤ 80) by simp only [okBks, hl.out, HA.out.done (by simp)]; simp)
      go_wp2
      go_ret
      exact ⟨ret_bool (by rw [HO.out]; simp; omega), hbel⟩

end Go.Proofs.YtjmlcobbjpmjpaaGreatDoor
namespace Go.Proofs.YtjmlcobbjpmjpaaGreatDoor
open Go.RowKit

set_option maxHeartbeats 2000000 in
theorem implValidBookings_any (A : Option Addr) (n c : Nat) (l : List Bk) (B : Nat) (w : World) (h : Reads w B 3 A n (bks l)) (hB : B ≤ w.heap.size) (hn : n ≤ 1048576) (hsm : ∀ x ∈ l, x.small) :
    Calls Tryz.prog 26 #[.slice A n c] w fun e w' => e = .returned (.bool (okBks l)) ∧ Below w.heap.size w w' := by
  have hl := Lib.hid (bks_len h)
  have HSM := Lib.hid hsm
  clear hsm
  go_enter Tryz.func26, Tryz.ntmps26
  go_wp2
  go_loopw [7] (fun i wr => ∃ k : Nat, k ≤ n ∧ i = .int .i64 k ∧ AllTo (rowBk l) (List.range n) k ∧ Below w.heap.size w wr) (fun i _ => n - (intOf i).toNat)
  case atStart => exact ⟨0, Nat.zero_le _, rfl, AllTo.zero _ _, Below.refl _ _⟩
  case round =>
    obtain ⟨k, hk, rfl, hall, hbel⟩ := hrel
    have HA := Lib.hid hall
    have HBe := Lib.hid hbel
    clear hall
    by_cases hlt : k < n
    · obtain ⟨x, b, off, he, rfl, hb, c0, c1, c2⟩ := bk_at (h.on hB hbel) hlt
      have hs : x.client.size ≤ 9223372036854775807 := by have := HSM.out x (List.mem_of_getElem? he); unfold Bk.small at this; omega
      have HE := Lib.hid he
      have hi0 : (0 : Int) ≤ k := by omega
      have hi1 : (k : Int) < n := by omega
      by_cases hx : okBk x = true
      · by_cases hk0 : k = 0
        · subst hk0
          have HR := Lib.hid (rowBk_zero HE.out hx)
          simp only [Nat.zero_mul, Nat.add_zero] at c0 c1 c2
          clear he h hbel HE
          go_wp2_with fail
          obtain ⟨wq, hwq⟩ : ∃ y, wr.alloc (.cells #[.int .i64 x.day, .string x.client, .int .i64 x.amount] 26) = y := ⟨_, rfl⟩
          have bx : Blk wq wr.heap.size 26 #[.int .i64 x.day, .string x.client, .int .i64 x.amount] := by rw [← hwq]; exact Blk.new _ _ _
          have bq : Below wr.heap.size wr wq := by rw [← hwq]; exact (Below.refl _ _).alloc (Nat.le_refl _) _
          rw [hwq]
          have q0 : wq.cell? ⟨wr.heap.size, 0, none⟩ = some (.int .i64 x.day) := bx.cellAt 0 (by simp)
          have q1 : wq.cell? ⟨wr.heap.size, 1, none⟩ = some (.string x.client) := bx.cellAt 1 (by simp)
          have q2 : wq.cell? ⟨wr.heap.size, 2, none⟩ = some (.int .i64 x.amount) := bx.cellAt 2 (by simp)
          have HBq := Lib.hid (bnext HBe.out bq (Nat.le_refl _))
          clear hwq bx bq c0 c1 c2
          refine wp_region_any (by kernel_rfl) ?_
          try (change wpAny _ _ _ _ _ _ _ (World.drew _))
          refine wpAny_ready (rs := [0]) (by kernel_rfl) (by simp) (AllReady.cons rfl (fun K hK => ?_) AllReady.nil)
          go_simp
          refine hK _ _ ?_
          clear hK K
          try simp only [Act.put, List.getElem_toArray, List.getElem_cons_succ, List.getElem_cons_zero, List.setIfInBounds_toArray, List.set_cons_zero, List.set_cons_succ]
          refine wpAny_ready (rs := [1]) (by kernel_rfl) (by simp) (AllReady.cons rfl (fun K hK => ?_) AllReady.nil)
          go_simp
          go_wp2_with ((go_at_call 62; refine (validBooking_any x _ hs).mono ?_; rintro e w1 ⟨rfl, hb1⟩))
          try simp only [Act.put, List.getElem_toArray, List.getElem_cons_succ, List.getElem_cons_zero, List.setIfInBounds_toArray, List.set_cons_zero, List.set_cons_succ]
          refine wpAny_take (i := 2) (v := ?_) rfl (by kernel_rfl) (by kernel_rfl) (by kernel_rfl) (fun _ _ _ h => h) (Or.inl ⟨by kernel_rfl, ?_⟩) ?_
          rotate_left 1
          · intro w; go_simp; try with_reducible rfl
          try simp only [Act.put, List.getElem_toArray, List.getElem_cons_succ, List.getElem_cons_zero, List.setIfInBounds_toArray, List.set_cons_zero, List.set_cons_succ]
          refine wpAny_take (i := 3) (v := ?_) rfl (by kernel_rfl) (by kernel_rfl) (by kernel_rfl) (fun _ _ _ h => h) (Or.inl ⟨by kernel_rfl, ?_⟩) ?_
          rotate_left 1
          · intro w; go_simp; try with_reducible rfl
          try simp only [Act.put, List.getElem_toArray, List.getElem_cons_succ, List.getElem_cons_zero, List.setIfInBounds_toArray, List.set_cons_zero, List.set_cons_succ]
          refine wpAny_take (i := 4) (v := ?_) rfl (by kernel_rfl) (by kernel_rfl) (by kernel_rfl) (fun _ _ _ h => h) (Or.inl ⟨by kernel_rfl, ?_⟩) ?_
          rotate_left 1
          · intro w; go_simp; try with_reducible rfl
          try simp only [Act.put, List.getElem_toArray, List.getElem_cons_succ, List.getElem_cons_zero, List.setIfInBounds_toArray, List.set_cons_zero, List.set_cons_succ]
          refine wpAny_take (i := 5) (v := ?_) rfl (by kernel_rfl) (by kernel_rfl) (by kernel_rfl) (fun _ _ _ h => h) (Or.inl ⟨by kernel_rfl, ?_⟩) ?_
          rotate_left 1
          · intro w; go_simp; try with_reducible rfl
          try simp only [Act.put, List.getElem_toArray, List.getElem_cons_succ, List.getElem_cons_zero, List.setIfInBounds_toArray, List.set_cons_zero, List.set_cons_succ]
          refine wpAny_take (i := 6) (v := ?_) rfl (by kernel_rfl) (by kernel_rfl) (by kernel_rfl) (fun _ _ _ h => h) (Or.inl ⟨by kernel_rfl, ?_⟩) ?_
          rotate_left 1
          · intro w; go_simp; try with_reducible rfl
          try simp only [Act.put, List.getElem_toArray, List.getElem_cons_succ, List.getElem_cons_zero, List.setIfInBounds_toArray, List.set_cons_zero, List.set_cons_succ]
          refine wpAny_take (i := 7) (v := undef) rfl (by kernel_rfl) (by kernel_rfl) (by kernel_rfl) (fun _ _ _ h => h) (Or.inr ⟨by kernel_rfl, rfl⟩) ?_
          try simp only [Act.put, List.getElem_toArray, List.getElem_cons_succ, List.getElem_cons_zero, List.setIfInBounds_toArray, List.set_cons_zero, List.set_cons_succ]
          refine wpAny_take (i := 8) (v := undef) rfl (by kernel_rfl) (by kernel_rfl) (by kernel_rfl) (fun _ _ _ h => h) (Or.inr ⟨by kernel_rfl, rfl⟩) ?_
          try simp only [Act.put, List.getElem_toArray, List.getElem_cons_succ, List.getElem_cons_zero, List.setIfInBounds_toArray, List.set_cons_zero, List.set_cons_succ]
          refine wpAny_take (i := 9) (v := undef) rfl (by kernel_rfl) (by kernel_rfl) (by kernel_rfl) (fun _ _ _ h => h) (Or.inr ⟨by kernel_rfl, rfl⟩) ?_
          try simp only [Act.put, List.getElem_toArray, List.getElem_cons_succ, List.getElem_cons_zero, List.setIfInBounds_toArray, List.set_cons_zero, List.set_cons_succ]
          refine wpAny_take (i := 10) (v := undef) rfl (by kernel_rfl) (by kernel_rfl) (by kernel_rfl) (fun _ _ _ h => h) (Or.inr ⟨by kernel_rfl, rfl⟩) ?_
          try simp only [Act.put, List.getElem_toArray, List.getElem_cons_succ, List.getElem_cons_zero, List.setIfInBounds_toArray, List.set_cons_zero, List.set_cons_succ]
          refine wpAny_take (i := 11) (v := undef) rfl (by kernel_rfl) (by kernel_rfl) (by kernel_rfl) (fun _ _ _ h => h) (Or.inr ⟨by kernel_rfl, rfl⟩) ?_
          try simp only [Act.put, List.getElem_toArray, List.getElem_cons_succ, List.getElem_cons_zero, List.setIfInBounds_toArray, List.set_cons_zero, List.set_cons_succ]
          refine wpAny_take (i := 12) (v := undef) rfl (by kernel_rfl) (by kernel_rfl) (by kernel_rfl) (fun _ _ _ h => h) (Or.inr ⟨by kernel_rfl, rfl⟩) ?_
          try simp only [Act.put, List.getElem_toArray, List.getElem_cons_succ, List.getElem_cons_zero, List.setIfInBounds_toArray, List.set_cons_zero, List.set_cons_succ]
          refine wpAny_take (i := 13) (v := undef) rfl (by kernel_rfl) (by kernel_rfl) (by kernel_rfl) (fun _ _ _ h => h) (Or.inr ⟨by kernel_rfl, rfl⟩) ?_
          try simp only [Act.put, List.getElem_toArray, List.getElem_cons_succ, List.getElem_cons_zero, List.setIfInBounds_toArray, List.set_cons_zero, List.set_cons_succ]
          refine wpAny_take (i := 14) (v := undef) rfl (by kernel_rfl) (by kernel_rfl) (by kernel_rfl) (fun _ _ _ h => h) (Or.inr ⟨by kernel_rfl, rfl⟩) ?_
          try simp only [Act.put, List.getElem_toArray, List.getElem_cons_succ, List.getElem_cons_zero, List.setIfInBounds_toArray, List.set_cons_zero, List.set_cons_succ]
          refine wpAny_take (i := 15) (v := undef) rfl (by kernel_rfl) (by kernel_rfl) (by kernel_rfl) (fun _ _ _ h => h) (Or.inr ⟨by kernel_rfl, rfl⟩) ?_
          try simp only [Act.put, List.getElem_toArray, List.getElem_cons_succ, List.getElem_cons_zero, List.setIfInBounds_toArray, List.set_cons_zero, List.set_cons_succ]
          refine wpAny_take (i := 16) (v := ?_) rfl (by kernel_rfl) (by kernel_rfl) (by kernel_rfl) (fun _ _ _ h => h) (Or.inl ⟨by kernel_rfl, ?_⟩) ?_
          rotate_left 1
          · intro w; go_simp; try with_reducible rfl
          try simp only [Act.put, List.getElem_toArray, List.getElem_cons_succ, List.getElem_cons_zero, List.setIfInBounds_toArray, List.set_cons_zero, List.set_cons_succ]
          refine wpAny_take (i := 17) (v := ?_) rfl (by kernel_rfl) (by kernel_rfl) (by kernel_rfl) (fun _ _ _ h => h) (Or.inl ⟨by kernel_rfl, ?_⟩) ?_
          rotate_left 1
          · intro w; go_simp; try with_reducible rfl
          try simp only [Act.put, List.getElem_toArray, List.getElem_cons_succ, List.getElem_cons_zero, List.setIfInBounds_toArray, List.set_cons_zero, List.set_cons_succ]
          refine wpAny_done (by kernel_rfl) ?_ _
          have HF := Lib.hid (bnext (below_drewN HBq.out 1) hb1 (Nat.le_refl _))
          clear hb1 q0 q1 q2
          go_wp2_with fail
          go_roundw
          case rel => exact ⟨1, by omega, by go_num, HA.out.step (range_at hlt) HR.out, HF.out⟩
          case measure => simp [intOf]; omega
        · obtain ⟨j, rfl⟩ : ∃ j, k = j + 1 := ⟨k - 1, by omega⟩
          obtain ⟨y, b', off', hy, e2, hb', d0, d1, d2⟩ := bk_at (k := j) (h.on hB hbel) (by omega)
          injection e2 with e2; injection e2 with e2 e2'; subst e2; subst e2'
          have hj0 : (0 : Int) ≤ j := by omega
          have hj1 : (j : Int) < n := by omega
          have hj2 : (j : Int) + 1 < n := by omega
          have hg0 : decide ((0 : Int) < (j : Int) + 1) = true := decide_eq_true (by omega)
          by_cases hd : y.day ≤ x.day
          · have HR := Lib.hid (rowBk_ok HE.out hx (by simpa using hy) hd)
            clear he h hbel d1 d2 hy hk0 HE
            go_wp2_with fail
            obtain ⟨wq, hwq⟩ : ∃ y, wr.alloc (.cells #[.int .i64 x.day, .string x.client, .int .i64 x.amount] 26) = y := ⟨_, rfl⟩
            have bx : Blk wq wr.heap.size 26 #[.int .i64 x.day, .string x.client, .int .i64 x.amount] := by rw [← hwq]; exact Blk.new _ _ _
            have bq : Below wr.heap.size wr wq := by rw [← hwq]; exact (Below.refl _ _).alloc (Nat.le_refl _) _
            rw [hwq]
            have q0 : wq.cell? ⟨wr.heap.size, 0, none⟩ = some (.int .i64 x.day) := bx.cellAt 0 (by simp)
            have q1 : wq.cell? ⟨wr.heap.size, 1, none⟩ = some (.string x.client) := bx.cellAt 1 (by simp)
            have q2 : wq.cell? ⟨wr.heap.size, 2, none⟩ = some (.int .i64 x.amount) := bx.cellAt 2 (by simp)
            have HBq := Lib.hid (bnext HBe.out bq (Nat.le_refl _))
            replace d0 := cell_on bq d0
            clear hwq bx bq c0 c1 c2
            have hw : IntKind.i64.wrap ((j : Int) + 1 - 1) = j := by rw [IntWalk.i64_in _ (by omega)]; omega
            have hw2 : IntKind.i64.wrap (j : Int) = j := IntWalk.i64_in _ (by omega)
            go_region_held3 (fun W => Below wq.heap.size wq W ∧ W.cell? ⟨wr.heap.size, 0, none⟩ = some (.int .i64 x.day) ∧ W.cell? ⟨wr.heap.size, 1, none⟩ = some (.string x.client) ∧ W.cell? ⟨wr.heap.size, 2, none⟩ = some (.int .i64 x.amount) ∧ W.cell? ⟨b, off + j * 3, none⟩ = some (.int .i64 y.day)) (first | exact ⟨(Below.refl _ _).drew, q0, q1, q2, d0⟩ | (go_split_ands; exact ⟨bnext (by assumption) hb1 (Nat.le_refl _), cell_on hb1 (by assumption), cell_on hb1 (by assumption), cell_on hb1 (by assumption), cell_on hb1 (by assumption)⟩)) (first | (go_at_call 62; refine (validBooking_any x _ hs).mono ?_; rintro e w1 ⟨rfl, hb1⟩))
            rename_i hS
            have HF := Lib.hid (bnext HBq.out hS.1 (Nat.le_refl _))
            clear hS hb1 q0 q1 q2 d0 hw hw2
            go_wp2_with fail
            go_roundw
            case rel => exact ⟨j + 1 + 1, by omega, by go_num, HA.out.step (range_at hlt) HR.out, HF.out⟩
            case measure => simp [intOf]; omega
          · have HO := Lib.hid (show okBks l = false by simp only [okBks, all_bad (range_at (show j + 1 < l.length by have := hl.out; omega)) (rowBk_late HE.out (by omega) (by simpa using hy) hd), Bool.false_and])
            have hd : x.day < y.day := by omega
            clear he h hbel d1 d2 hy hk0 HE
            go_wp2_with fail
            obtain ⟨wq, hwq⟩ : ∃ y, wr.alloc (.cells #[.int .i64 x.day, .string x.client, .int .i64 x.amount] 26) = y := ⟨_, rfl⟩
            have bx : Blk wq wr.heap.size 26 #[.int .i64 x.day, .string x.client, .int .i64 x.amount] := by rw [← hwq]; exact Blk.new _ _ _
            have bq : Below wr.heap.size wr wq := by rw [← hwq]; exact (Below.refl _ _).alloc (Nat.le_refl _) _
            rw [hwq]
            have q0 : wq.cell? ⟨wr.heap.size, 0, none⟩ = some (.int .i64 x.day) := bx.cellAt 0 (by simp)
            have q1 : wq.cell? ⟨wr.heap.size, 1, none⟩ = some (.string x.client) := bx.cellAt 1 (by simp)
            have q2 : wq.cell? ⟨wr.heap.size, 2, none⟩ = some (.int .i64 x.amount) := bx.cellAt 2 (by simp)
            have HBq := Lib.hid (bnext HBe.out bq (Nat.le_refl _))
            replace d0 := cell_on bq d0
            clear hwq bx bq c0 c1 c2
            have hw : IntKind.i64.wrap ((j : Int) + 1 - 1) = j := by rw [IntWalk.i64_in _ (by omega)]; omega
            have hw2 : IntKind.i64.wrap (j : Int) = j := IntWalk.i64_in _ (by omega)
            go_region_held3 (fun W => Below wq.heap.size wq W ∧ W.cell? ⟨wr.heap.size, 0, none⟩ = some (.int .i64 x.day) ∧ W.cell? ⟨wr.heap.size, 1, none⟩ = some (.string x.client) ∧ W.cell? ⟨wr.heap.size, 2, none⟩ = some (.int .i64 x.amount) ∧ W.cell? ⟨b, off + j * 3, none⟩ = some (.int .i64 y.day)) (first | exact ⟨(Below.refl _ _).drew, q0, q1, q2, d0⟩ | (go_split_ands; exact ⟨bnext (by assumption) hb1 (Nat.le_refl _), cell_on hb1 (by assumption), cell_on hb1 (by assumption), cell_on hb1 (by assumption), cell_on hb1 (by assumption)⟩)) (first | (go_at_call 62; refine (validBooking_any x _ hs).mono ?_; rintro e w1 ⟨rfl, hb1⟩))
            rename_i hS
            have HF := Lib.hid (bnext HBq.out hS.1 (Nat.le_refl _))
            clear hS hb1 q0 q1 q2 d0 hw hw2
            go_wp2_with fail
            go_ret
            exact ⟨ret_bool HO.out.symm, HF.out⟩
      · have hx : okBk x = false := by simpa using hx
        have HO := Lib.hid (show okBks l = false by simp only [okBks, all_bad (range_at (show k < l.length by have := hl.out; omega)) (rowBk_bad HE.out hx), Bool.false_and])
        clear he h hbel HE
        go_wp2_with fail
        obtain ⟨wq, hwq⟩ : ∃ y, wr.alloc (.cells #[.int .i64 x.day, .string x.client, .int .i64 x.amount] 26) = y := ⟨_, rfl⟩
        have bx : Blk wq wr.heap.size 26 #[.int .i64 x.day, .string x.client, .int .i64 x.amount] := by rw [← hwq]; exact Blk.new _ _ _
        have bq : Below wr.heap.size wr wq := by rw [← hwq]; exact (Below.refl _ _).alloc (Nat.le_refl _) _
        rw [hwq]
        have q0 : wq.cell? ⟨wr.heap.size, 0, none⟩ = some (.int .i64 x.day) := bx.cellAt 0 (by simp)
        have q1 : wq.cell? ⟨wr.heap.size, 1, none⟩ = some (.string x.client) := bx.cellAt 1 (by simp)
        have q2 : wq.cell? ⟨wr.heap.size, 2, none⟩ = some (.int .i64 x.amount) := bx.cellAt 2 (by simp)
        have HBq := Lib.hid (bnext HBe.out bq (Nat.le_refl _))
        clear hwq bx bq c0 c1 c2
        refine wp_region_any (by kernel_rfl) ?_
        try (change wpAny _ _ _ _ _ _ _ (World.drew _))
        refine wpAny_ready (rs := [0]) (by kernel_rfl) (by simp) (AllReady.cons rfl (fun K hK => ?_) AllReady.nil)
        go_simp
        refine hK _ _ ?_
        clear hK K
        try simp only [Act.put, List.getElem_toArray, List.getElem_cons_succ, List.getElem_cons_zero, List.setIfInBounds_toArray, List.set_cons_zero, List.set_cons_succ]
        refine wpAny_ready (rs := [1]) (by kernel_rfl) (by simp) (AllReady.cons rfl (fun K hK => ?_) AllReady.nil)
        go_simp
        go_wp2_with ((go_at_call 62; refine (validBooking_any x _ hs).mono ?_; rintro e w1 ⟨rfl, hb1⟩))
        try simp only [Act.put, List.getElem_toArray, List.getElem_cons_succ, List.getElem_cons_zero, List.setIfInBounds_toArray, List.set_cons_zero, List.set_cons_succ]
        refine wpAny_take (i := 2) (v := ?_) rfl (by kernel_rfl) (by kernel_rfl) (by kernel_rfl) (fun _ _ _ h => h) (Or.inl ⟨by kernel_rfl, ?_⟩) ?_
        rotate_left 1
        · intro w; go_simp; try with_reducible rfl
        try simp only [Act.put, List.getElem_toArray, List.getElem_cons_succ, List.getElem_cons_zero, List.setIfInBounds_toArray, List.set_cons_zero, List.set_cons_succ]
        refine wpAny_take (i := 3) (v := ?_) rfl (by kernel_rfl) (by kernel_rfl) (by kernel_rfl) (fun _ _ _ h => h) (Or.inl ⟨by kernel_rfl, ?_⟩) ?_
        rotate_left 1
        · intro w; go_simp; try with_reducible rfl
        try simp only [Act.put, List.getElem_toArray, List.getElem_cons_succ, List.getElem_cons_zero, List.setIfInBounds_toArray, List.set_cons_zero, List.set_cons_succ]
        refine wpAny_take (i := 4) (v := undef) rfl (by kernel_rfl) (by kernel_rfl) (by kernel_rfl) (fun _ _ _ h => h) (Or.inr ⟨by kernel_rfl, rfl⟩) ?_
        try simp only [Act.put, List.getElem_toArray, List.getElem_cons_succ, List.getElem_cons_zero, List.setIfInBounds_toArray, List.set_cons_zero, List.set_cons_succ]
        refine wpAny_take (i := 5) (v := undef) rfl (by kernel_rfl) (by kernel_rfl) (by kernel_rfl) (fun _ _ _ h => h) (Or.inr ⟨by kernel_rfl, rfl⟩) ?_
        try simp only [Act.put, List.getElem_toArray, List.getElem_cons_succ, List.getElem_cons_zero, List.setIfInBounds_toArray, List.set_cons_zero, List.set_cons_succ]
        refine wpAny_take (i := 6) (v := undef) rfl (by kernel_rfl) (by kernel_rfl) (by kernel_rfl) (fun _ _ _ h => h) (Or.inr ⟨by kernel_rfl, rfl⟩) ?_
        try simp only [Act.put, List.getElem_toArray, List.getElem_cons_succ, List.getElem_cons_zero, List.setIfInBounds_toArray, List.set_cons_zero, List.set_cons_succ]
        refine wpAny_take (i := 7) (v := undef) rfl (by kernel_rfl) (by kernel_rfl) (by kernel_rfl) (fun _ _ _ h => h) (Or.inr ⟨by kernel_rfl, rfl⟩) ?_
        try simp only [Act.put, List.getElem_toArray, List.getElem_cons_succ, List.getElem_cons_zero, List.setIfInBounds_toArray, List.set_cons_zero, List.set_cons_succ]
        refine wpAny_take (i := 8) (v := undef) rfl (by kernel_rfl) (by kernel_rfl) (by kernel_rfl) (fun _ _ _ h => h) (Or.inr ⟨by kernel_rfl, rfl⟩) ?_
        try simp only [Act.put, List.getElem_toArray, List.getElem_cons_succ, List.getElem_cons_zero, List.setIfInBounds_toArray, List.set_cons_zero, List.set_cons_succ]
        refine wpAny_take (i := 9) (v := undef) rfl (by kernel_rfl) (by kernel_rfl) (by kernel_rfl) (fun _ _ _ h => h) (Or.inr ⟨by kernel_rfl, rfl⟩) ?_
        try simp only [Act.put, List.getElem_toArray, List.getElem_cons_succ, List.getElem_cons_zero, List.setIfInBounds_toArray, List.set_cons_zero, List.set_cons_succ]
        refine wpAny_take (i := 10) (v := undef) rfl (by kernel_rfl) (by kernel_rfl) (by kernel_rfl) (fun _ _ _ h => h) (Or.inr ⟨by kernel_rfl, rfl⟩) ?_
        try simp only [Act.put, List.getElem_toArray, List.getElem_cons_succ, List.getElem_cons_zero, List.setIfInBounds_toArray, List.set_cons_zero, List.set_cons_succ]
        refine wpAny_take (i := 11) (v := undef) rfl (by kernel_rfl) (by kernel_rfl) (by kernel_rfl) (fun _ _ _ h => h) (Or.inr ⟨by kernel_rfl, rfl⟩) ?_
        try simp only [Act.put, List.getElem_toArray, List.getElem_cons_succ, List.getElem_cons_zero, List.setIfInBounds_toArray, List.set_cons_zero, List.set_cons_succ]
        refine wpAny_take (i := 12) (v := undef) rfl (by kernel_rfl) (by kernel_rfl) (by kernel_rfl) (fun _ _ _ h => h) (Or.inr ⟨by kernel_rfl, rfl⟩) ?_
        try simp only [Act.put, List.getElem_toArray, List.getElem_cons_succ, List.getElem_cons_zero, List.setIfInBounds_toArray, List.set_cons_zero, List.set_cons_succ]
        refine wpAny_take (i := 13) (v := undef) rfl (by kernel_rfl) (by kernel_rfl) (by kernel_rfl) (fun _ _ _ h => h) (Or.inr ⟨by kernel_rfl, rfl⟩) ?_
        try simp only [Act.put, List.getElem_toArray, List.getElem_cons_succ, List.getElem_cons_zero, List.setIfInBounds_toArray, List.set_cons_zero, List.set_cons_succ]
        refine wpAny_take (i := 14) (v := undef) rfl (by kernel_rfl) (by kernel_rfl) (by kernel_rfl) (fun _ _ _ h => h) (Or.inr ⟨by kernel_rfl, rfl⟩) ?_
        try simp only [Act.put, List.getElem_toArray, List.getElem_cons_succ, List.getElem_cons_zero, List.setIfInBounds_toArray, List.set_cons_zero, List.set_cons_succ]
        refine wpAny_take (i := 15) (v := undef) rfl (by kernel_rfl) (by kernel_rfl) (by kernel_rfl) (fun _ _ _ h => h) (Or.inr ⟨by kernel_rfl, rfl⟩) ?_
        try simp only [Act.put, List.getElem_toArray, List.getElem_cons_succ, List.getElem_cons_zero, List.setIfInBounds_toArray, List.set_cons_zero, List.set_cons_succ]
        refine wpAny_take (i := 16) (v := undef) rfl (by kernel_rfl) (by kernel_rfl) (by kernel_rfl) (fun _ _ _ h => h) (Or.inr ⟨by kernel_rfl, rfl⟩) ?_
        try simp only [Act.put, List.getElem_toArray, List.getElem_cons_succ, List.getElem_cons_zero, List.setIfInBounds_toArray, List.set_cons_zero, List.set_cons_succ]
        refine wpAny_take (i := 17) (v := ?_) rfl (by kernel_rfl) (by kernel_rfl) (by kernel_rfl) (fun _ _ _ h => h) (Or.inl ⟨by kernel_rfl, ?_⟩) ?_
        rotate_left 1
        · intro w; go_simp; try with_reducible rfl
        try simp only [Act.put, List.getElem_toArray, List.getElem_cons_succ, List.getElem_cons_zero, List.setIfInBounds_toArray, List.set_cons_zero, List.set_cons_succ]
        refine wpAny_done (by kernel_rfl) ?_ _
        have HF := Lib.hid (bnext (below_drewN HBq.out 1) hb1 (Nat.le_refl _))
        clear hb1 q0 q1 q2
        go_wp2_with fail
        go_ret
        exact ⟨ret_bool HO.out.symm, HF.out⟩
    · obtain rfl : k = n := by omega
      have HO := Lib.hid (show okBks l = decide (k ≤ 80) by simp only [okBks, hl.out, HA.out.done (by simp)]; simp)
      go_wp2
      go_ret
      exact ⟨ret_bool (by rw [HO.out]; simp; omega), hbel⟩
end Go.Proofs.YtjmlcobbjpmjpaaGreatDoor
namespace Go.Proofs.YtjmlcobbjpmjpaaGreatDoor
open Go.RowKit

theorem specValidBookings_any (A : Option Addr) (n c : Nat) (l : List Bk) (B : Nat) (w : World) (h : Reads w B 3 A n (bks l)) (hB : B ≤ w.heap.size) (hn : n ≤ 1048576) (hsm : ∀ x ∈ l, x.small) :
    Calls Tryz.prog 27 #[.slice A n c] w fun e w' => e = .returned (.bool (okBks l)) ∧ Below w.heap.size w w' := by
  go_enter Tryz.func27, Tryz.ntmps27
  go_wp2_with fail
  refine (l25Ok_any A n c B l _ h hn hB hsm).mono ?_
  rintro e w1 ⟨rfl, b1⟩
  go_wp2
  go_ret
  exact ⟨rfl, b1⟩
end Go.Proofs.YtjmlcobbjpmjpaaGreatDoor
namespace Go.Proofs.YtjmlcobbjpmjpaaGreatDoor
open Go.RowKit

/-! ### Sums over a list -/
def bsum (f : Bk → Int) (l : List Bk) : Nat → Int
  | 0 => 0
  | k + 1 => bsum f l k + (match l[k]? with | none => 0 | some x => f x)
theorem bsum_step {f : Bk → Int} {l : List Bk} {k : Nat} {x : Bk} (h : l[k]? = some x) : bsum f l (k + 1) = bsum f l k + f x := by simp [bsum, h]
theorem bsum_bd {f : Bk → Int} {l : List Bk} (h : ∀ x ∈ l, -1000000000 ≤ f x ∧ f x ≤ 1000000000) (k : Nat) : -(1000000000 * (k : Int)) ≤ bsum f l k ∧ bsum f l k ≤ 1000000000 * (k : Int) := by
  induction k with
  | zero => simp [bsum]
  | succ k ih =>
    rcases hx : l[k]? with _ | z
    · simp only [bsum, hx]; omega
    · simp only [bsum, hx]; have := h z (List.mem_of_getElem? hx); omega
theorem bsum_bd0 {f : Bk → Int} {l : List Bk} (h : ∀ x ∈ l, 0 ≤ f x ∧ f x ≤ 1000000000) (k : Nat) : 0 ≤ bsum f l k ∧ bsum f l k ≤ 1000000000 * (k : Int) := by
  induction k with
  | zero => simp [bsum]
  | succ k ih =>
    rcases hx : l[k]? with _ | z
    · simp only [bsum, hx]; omega
    · simp only [bsum, hx]; have := h z (List.mem_of_getElem? hx); omega
theorem bsum_stop {f : Bk → Int} {l : List Bk} {k : Nat} (h : ∀ (j : Nat) (x : Bk), k ≤ j → l[j]? = some x → f x = 0) : ∀ m, k ≤ m → bsum f l m = bsum f l k := by
  intro m
  induction m with
  | zero =>
    intro hm
    obtain rfl : k = 0 := by omega
    rfl
  | succ m ih =>
    intro hm
    by_cases e : k = m + 1
    · rw [e]
    · rcases hx : l[m]? with _ | z
      · simp only [bsum, hx, ih (by omega)]; omega
      · simp only [bsum, hx, ih (by omega), h m z (by omega) hx]; omega

/-! ### What a right list is -/
theorem okBks_len {l : List Bk} (h : okBks l = true) : l.length ≤ 80 := by
  simp only [okBks, Bool.and_eq_true, decide_eq_true_eq] at h
  exact h.2
theorem okBks_row {l : List Bk} (h : okBks l = true) {i : Nat} (hi : i < l.length) : rowBk l i = true := by
  simp only [okBks, Bool.and_eq_true, List.all_eq_true] at h
  exact h.1 i (by simpa using hi)
theorem okBks_mem {l : List Bk} (h : okBks l = true) : ∀ x ∈ l, (0 ≤ x.day ∧ x.day ≤ 20000) ∧ isName x.client = true ∧ (-1000000000 ≤ x.amount ∧ x.amount ≤ 1000000000) ∧ x.amount ≠ 0 := by
  intro x hx
  obtain ⟨i, hi, rfl⟩ := List.mem_iff_getElem.1 hx
  have := okBks_row h hi
  simp only [rowBk, List.getElem?_eq_getElem hi, Bool.and_eq_true] at this
  exact okBk_iff.1 this.1
theorem okBks_next {l : List Bk} (h : okBks l = true) {i : Nat} {x y : Bk} (hx : l[i]? = some x) (hy : l[i + 1]? = some y) : x.day ≤ y.day := by
  have hi : i + 1 < l.length := (List.getElem?_eq_some_iff.1 hy).1
  have := okBks_row h hi
  simp only [rowBk, hy, Bool.and_eq_true, Bool.or_eq_true, decide_eq_true_eq, Nat.add_sub_cancel, hx] at this
  omega
theorem okBks_sorted {l : List Bk} (h : okBks l = true) {i : Nat} {x : Bk} (hx : l[i]? = some x) : ∀ (d : Nat) (y : Bk), l[i + d]? = some y → x.day ≤ y.day := by
  intro d
  induction d with
  | zero => intro y hy; rw [Nat.add_zero, hx] at hy; injection hy with hy; subst hy; exact Int.le_refl _
  | succ d ih =>
    intro y hy
    have hi : i + d < l.length := by have := (List.getElem?_eq_some_iff.1 hy).1; omega
    exact Int.le_trans (ih _ (List.getElem?_eq_getElem hi)) (okBks_next h (List.getElem?_eq_getElem hi) hy)

/-! ### Balances -/
def balf (s : ByteArray) (d : Int) (x : Bk) : Int := if (x.client.toList == s.toList && decide (x.day ≤ d)) = true then x.amount else 0
def bal (l : List Bk) (s : ByteArray) (d : Int) : Int := bsum (balf s d) l l.length
theorem balf_bd {l : List Bk} (h : okBks l = true) (s : ByteArray) (d : Int) : ∀ x ∈ l, -1000000000 ≤ balf s d x ∧ balf s d x ≤ 1000000000 := by
  intro x hx
  have := (okBks_mem h x hx).2.2.1
  unfold balf
  split <;> omega
theorem bal_bd {l : List Bk} (h : okBks l = true) (s : ByteArray) (d : Int) : -80000000000 ≤ bal l s d ∧ bal l s d ≤ 80000000000 := by
  have h1 := bsum_bd (balf_bd h s d) l.length
  have h2 := okBks_len h
  unfold bal
  omega

theorem l25Balance_any (A : Option Addr) (n c : Nat) (l : List Bk) (s : ByteArray) (d : Int) (B : Nat) (w : World) (h : Reads w B 3 A n (bks l)) (hok : okBks l = true) (hd : I64 d) :
    Calls Tryz.prog 73 #[.slice A n c, .string s, .int .i64 d] w fun e w' => e = .returned (.int .i64 (bal l s d)) ∧ w = w' := by
  have hl := Lib.hid (bks_len h)
  have hn : n ≤ 80 := by have := okBks_len hok; have := hl.out; omega
  have HK := Lib.hid hok
  clear hok
  go_enter Tryz.func73, Tryz.ntmps73
  go_wp2
  go_loop [7, 8] (fun q i => ∃ k : Nat, k ≤ n ∧ i = .int .i64 k ∧ q = .int .i64 (bsum (balf s d) l k)) (fun _ i => n - (intOf i).toNat)
  case atStart => exact ⟨0, Nat.zero_le _, rfl, rfl⟩
  case round =>
    obtain ⟨k, hk, rfl, rfl⟩ := hrel
    by_cases hlt : k < n
    · obtain ⟨x, b, off, he, rfl, hb, c0, c1, c2⟩ := bk_at h hlt
      have hx := (okBks_mem HK.out x (List.mem_of_getElem? he)).2.2.1
      have hxd := (okBks_mem HK.out x (List.mem_of_getElem? he)).1
      have hs := bsum_bd (balf_bd HK.out s d) k
      have HS := Lib.hid (bsum_step (f := balf s d) he)
      have HE := Lib.hid he
      clear he h
      have HZ := Lib.hid (show bal l s d = bsum (balf s d) l l.length from rfl)
      generalize hq : bsum (balf s d) l k = q at *
      have HQ := Lib.hid hq
      clear hq
      by_cases hday : x.day ≤ d
      · rcases hcl : (x.client.toList == s.toList) with _ | _
        · have HF := Lib.hid (show balf s d x = 0 by simp [balf, hcl])
          go_wp2
          go_round
          case rel => exact ⟨k + 1, by omega, by go_num, by rw [HS.out, HF.out, Int.add_zero]⟩
          case measure => simp [intOf]; omega
        · have HF := Lib.hid (show balf s d x = x.amount by simp [balf, hcl, hday])
          go_wp2
          go_round
          case rel => exact ⟨k + 1, by omega, by go_num, by rw [HS.out, HF.out]⟩
          case measure => simp [intOf]; omega
      · have HF := Lib.hid (show bal l s d = q by
          rw [HZ.out, ← HQ.out]
          refine bsum_stop (fun j y hj hy => ?_) _ (by have := hl.out; omega)
          have := okBks_sorted HK.out HE.out (j - k) y (by rwa [show k + (j - k) = j from by omega])
          have hyd : ¬ y.day ≤ d := by omega
          simp [balf, hyd])
        have hday' : decide (x.day ≤ d) = false := decide_eq_false hday
        go_wp2
        go_ret
        exact ⟨ret_int HF.out.symm, rfl⟩
    · obtain rfl : k = n := by omega
      have HF := Lib.hid (show bal l s d = bsum (balf s d) l k by rw [bal, hl.out])
      go_wp2
      go_ret
      exact ⟨ret_int HF.out.symm, rfl⟩

theorem balanceOn_any (A : Option Addr) (n c : Nat) (l : List Bk) (s : ByteArray) (d : Int) (B : Nat) (w : World) (h : Reads w B 3 A n (bks l)) (hB : B ≤ w.heap.size) (hok : okBks l = true) (hd : I64 d) :
    Calls Tryz.prog 71 #[.slice A n c, .string s, .int .i64 d] w fun e w' => e = .returned (.int .i64 (bal l s d)) ∧ Below w.heap.size w w' := by
  have hl := Lib.hid (bks_len h)
  have hn : n ≤ 80 := by have := okBks_len hok; have := hl.out; omega
  have HK := Lib.hid hok
  clear hok
  go_enter Tryz.func71, Tryz.ntmps71
  go_wp2
  go_loopw [7, 12] (fun q i wr => ∃ k : Nat, k ≤ n ∧ i = .int .i64 k ∧ q = .int .i64 (bsum (balf s d) l k) ∧ Below w.heap.size w wr) (fun _ i _ => n - (intOf i).toNat)
  case atStart => exact ⟨0, Nat.zero_le _, rfl, rfl, Below.refl _ _⟩
  case round =>
    obtain ⟨k, hk, rfl, rfl, hbel⟩ := hrel
    have HBe := Lib.hid hbel
    by_cases hlt : k < n
    · obtain ⟨x, b, off, he, rfl, hb, c0, c1, c2⟩ := bk_at (h.on hB hbel) hlt
      have hx := (okBks_mem HK.out x (List.mem_of_getElem? he)).2.2.1
      have hxd := (okBks_mem HK.out x (List.mem_of_getElem? he)).1
      have hs := bsum_bd (balf_bd HK.out s d) k
      have HS := Lib.hid (bsum_step (f := balf s d) he)
      clear he h hbel
      generalize bsum (balf s d) l k = q at *
      rcases hcl : (x.client.toList == s.toList) with _ | _
      · have HF := Lib.hid (show balf s d x = 0 by simp [balf, hcl])
        go_wp2
        go_roundw
        case rel => exact ⟨k + 1, by omega, by go_num, by rw [HS.out, HF.out, Int.add_zero], HBe.out.alloc HBe.out.size _⟩
        case measure => simp [intOf]; omega
      · by_cases hday : x.day ≤ d
        · have HF := Lib.hid (show balf s d x = x.amount by simp [balf, hcl, hday])
          go_wp2
          go_roundw
          case rel => exact ⟨k + 1, by omega, by go_num, by rw [HS.out, HF.out], HBe.out.alloc HBe.out.size _⟩
          case measure => simp [intOf]; omega
        · have HF := Lib.hid (show balf s d x = 0 by simp [balf, hday])
          have hday' : decide (x.day ≤ d) = false := decide_eq_false hday
          go_wp2
          go_roundw
          case rel => exact ⟨k + 1, by omega, by go_num, by rw [HS.out, HF.out, Int.add_zero], HBe.out.alloc HBe.out.size _⟩
          case measure => simp [intOf]; omega
    · obtain rfl : k = n := by omega
      have HF := Lib.hid (show bal l s d = bsum (balf s d) l k by rw [bal, hl.out])
      go_wp2
      go_ret
      exact ⟨ret_int HF.out.symm, hbel⟩
end Go.Proofs.YtjmlcobbjpmjpaaGreatDoor
namespace Go.Proofs.YtjmlcobbjpmjpaaGreatDoor
open Go.RowKit Stb

theorem strs_row_get {f : Nat → ByteArray} {n k : Nat} (h : k < n) : (strs (row f n))[k]? = some (.string (f k)) := by simp [strs, row, h]
theorem strs_row_set (f : Nat → ByteArray) (n i : Nat) (v : ByteArray) : (strs (row f n)).set i (.string v) = strs (row (upd f i v) n) := by
  rw [← row_set]; simp [strs, List.map_set]
theorem strs_row_swp (f : Nat → ByteArray) (n i j : Nat) : ((strs (row f n)).set i (.string (f j))).set j (.string (f i)) = strs (row (swp f i j) n) := by
  rw [strs_row_set, strs_row_set, upd_upd]
theorem Sl.swp_ {w : World} {lo hi g n c i j : Nat} {f : Nat → ByteArray} (h : Sl w lo hi 9 1 (some ⟨g, 0, none⟩) n c (strs (row f n))) : Sl (((w.setCell ⟨g, i, none⟩ (.string (f j))).setCell ⟨g, j, none⟩ (.string (f i))).drew) lo hi 9 1 (some ⟨g, 0, none⟩) n c (strs (row (swp f i j) n)) := by
  have q := (h.set_ i (.string (f j))).set_ j (.string (f i))
  rw [strs_row_swp] at q
  exact q.keep fun _ _ _ _ => rfl
theorem Only.swp_ {a w : World} {g : Nat} (h : Only g (g + 1) a w) (i j : Nat) (u v : Value) : Only g (g + 1) a (((w.setCell ⟨g, i, none⟩ u).setCell ⟨g, j, none⟩ v).drew) := by
  have q := (h.setCell (p := ⟨g, i, none⟩) (Nat.le_refl g) (Nat.lt_succ_self g) u).setCell (p := ⟨g, j, none⟩) (Nat.le_refl g) (Nat.lt_succ_self g) v
  exact ⟨q.os, q.tape, q.output, q.size, q.block⟩

set_option maxHeartbeats 1000000 in
set_option maxRecDepth 100000 in
theorem swapRange_any (g n c lo hi a b k : Nat) (f : Nat → ByteArray) (cb : Value) (w : World) (h : Sl w lo hi 9 1 (some ⟨g, 0, none⟩) n c (strs (row (f) n))) (hab : a + k ≤ b) (hb : b + k ≤ n) (hn : n ≤ 1000000000) :
    Calls Tryz.prog 244 #[.slice (some ⟨g, 0, none⟩) n c, .int .i64 (a : Int), .int .i64 (b : Int), .int .i64 (k : Int), cb] w fun e w' => e = .returned (.tuple #[]) ∧ Sl w' lo hi 9 1 (some ⟨g, 0, none⟩) n c (strs (row (exch f a b k) n)) ∧ Only g (g + 1) w w' := by
  have HH := Lib.hid h
  clear h
  go_enter Tryz.func244, Tryz.ntmps244
  go_wp2
  go_loopw [10] (fun i wr => ∃ j : Nat, j ≤ k ∧ i = .int .i64 (j : Int) ∧ Sl wr lo hi 9 1 (some ⟨g, 0, none⟩) n c (strs (row (exch f a b j) n)) ∧ Only g (g + 1) w wr) (fun i _ => k - (intOf i).toNat)
  case atStart => exact ⟨0, Nat.zero_le _, rfl, by rw [exch_zero]; exact HH.out, Only.refl _ _ _⟩
  case round =>
    obtain ⟨j, hj, rfl, hsl, ho⟩ := hrel
    have HSL := Lib.hid hsl
    have HO := Lib.hid ho
    clear hsl ho HH
    by_cases hlt : j < k
    · have HEX := Lib.hid (exch_step f (a := a) (b := b) (n := j) (by omega))
      obtain ⟨x, hx⟩ : ∃ x : Nat, (a : Int) + (j : Int) = (x : Int) := ⟨a + j, by omega⟩
      obtain ⟨y, hy⟩ : ∃ y : Nat, (b : Int) + (j : Int) = (y : Int) := ⟨b + j, by omega⟩
      obtain ⟨hxe, hye⟩ : a + j = x ∧ b + j = y := by omega
      have hxw : IntKind.i64.wrap (x : Int) = x := by rw [IntKind.wrap_i64]; omega
      have hyw : IntKind.i64.wrap (y : Int) = y := by rw [IntKind.wrap_i64]; omega
      rw [hxe, hye] at HEX
      obtain ⟨hxn, hyn⟩ : x < n ∧ y < n := by omega
      have hx0 : (0 : Int) ≤ x := by omega
      have hx1 : (x : Int) < n := by omega
      have hy0 : (0 : Int) ≤ y := by omega
      have hy1 : (y : Int) < n := by omega
      have hne : ¬ x = y := by omega
      have hne2 : ¬ y = x := by omega
      have cx := (HSL.out.cellAt x (by omega)).trans (strs_row_get hxn)
      have cy := (HSL.out.cellAt y (by omega)).trans (strs_row_get hyn)
      have fx := HSL.out.frozenAt x
      have fy := HSL.out.frozenAt y
      clear hxe hye
      go_wp2_with fail
      refine wp_region_any (by kernel_rfl) ?_
      try (change wpAny _ _ _ _ _ _ _ (World.drew _))
      refine wpAny_take (i := 0) (v := ?_) rfl (by kernel_rfl) (by kernel_rfl) (by kernel_rfl) (fun _ _ _ h => h) (Or.inl ⟨by kernel_rfl, ?_⟩) ?_
      rotate_left 1
      · intro w; go_simp; try with_reducible rfl
      try simp only [Act.put, List.getElem_toArray, List.getElem_cons_succ, List.getElem_cons_zero, List.setIfInBounds_toArray, List.set_cons_zero, List.set_cons_succ]
      refine wpAny_take (i := 1) (v := ?_) rfl (by kernel_rfl) (by kernel_rfl) (by kernel_rfl) (fun _ _ _ h => h) (Or.inl ⟨by kernel_rfl, ?_⟩) ?_
      rotate_left 1
      · intro w; go_simp; try with_reducible rfl
      try simp only [Act.put, List.getElem_toArray, List.getElem_cons_succ, List.getElem_cons_zero, List.setIfInBounds_toArray, List.set_cons_zero, List.set_cons_succ]
      refine wpAny_take (i := 2) (v := ?_) rfl (by kernel_rfl) (by kernel_rfl) (by kernel_rfl) (fun _ _ _ h => h) (Or.inl ⟨by kernel_rfl, ?_⟩) ?_
      rotate_left 1
      · intro w; go_simp; try with_reducible rfl
      try simp only [Act.put, List.getElem_toArray, List.getElem_cons_succ, List.getElem_cons_zero, List.setIfInBounds_toArray, List.set_cons_zero, List.set_cons_succ]
      refine wpAny_take (i := 3) (v := ?_) rfl (by kernel_rfl) (by kernel_rfl) (by kernel_rfl) (fun _ _ _ h => h) (Or.inl ⟨by kernel_rfl, ?_⟩) ?_
      rotate_left 1
      · intro w; go_simp; try with_reducible rfl
      try simp only [Act.put, List.getElem_toArray, List.getElem_cons_succ, List.getElem_cons_zero, List.setIfInBounds_toArray, List.set_cons_zero, List.set_cons_succ]
      refine wpAny_take (i := 4) (v := ?_) rfl (by kernel_rfl) (by kernel_rfl) (by kernel_rfl) (fun _ _ _ h => h) (Or.inl ⟨by kernel_rfl, ?_⟩) ?_
      rotate_left 1
      · intro w; go_simp; try with_reducible rfl
      try simp only [Act.put, List.getElem_toArray, List.getElem_cons_succ, List.getElem_cons_zero, List.setIfInBounds_toArray, List.set_cons_zero, List.set_cons_succ]
      refine wpAny_take (i := 5) (v := ?_) rfl (by kernel_rfl) (by kernel_rfl) (by kernel_rfl) (fun _ _ _ h => h) (Or.inl ⟨by kernel_rfl, ?_⟩) ?_
      rotate_left 1
      · intro w; go_simp; try with_reducible rfl
      try simp only [Act.put, List.getElem_toArray, List.getElem_cons_succ, List.getElem_cons_zero, List.setIfInBounds_toArray, List.set_cons_zero, List.set_cons_succ]
      refine wpAny_take (i := 6) (v := ?_) rfl (by kernel_rfl) (by kernel_rfl) (by kernel_rfl) (fun _ _ _ h => h) (Or.inl ⟨by kernel_rfl, ?_⟩) ?_
      rotate_left 1
      · intro w; go_simp; try with_reducible rfl
      try simp only [Act.put, List.getElem_toArray, List.getElem_cons_succ, List.getElem_cons_zero, List.setIfInBounds_toArray, List.set_cons_zero, List.set_cons_succ]
      refine wpAny_take (i := 7) (v := ?_) rfl (by kernel_rfl) (by kernel_rfl) (by kernel_rfl) (fun _ _ _ h => h) (Or.inl ⟨by kernel_rfl, ?_⟩) ?_
      rotate_left 1
      · intro w; go_simp; try with_reducible rfl
      try simp only [Act.put, List.getElem_toArray, List.getElem_cons_succ, List.getElem_cons_zero, List.setIfInBounds_toArray, List.set_cons_zero, List.set_cons_succ]
      refine wpAny_take (i := 8) (v := ?_) rfl (by kernel_rfl) (by kernel_rfl) (by kernel_rfl) (fun _ _ _ h => h) (Or.inl ⟨by kernel_rfl, ?_⟩) ?_
      rotate_left 1
      · intro w; go_simp; try with_reducible rfl
      try simp only [Act.put, List.getElem_toArray, List.getElem_cons_succ, List.getElem_cons_zero, List.setIfInBounds_toArray, List.set_cons_zero, List.set_cons_succ]
      refine wpAny_take (i := 9) (v := ?_) rfl (by kernel_rfl) (by kernel_rfl) (by kernel_rfl) (fun _ _ _ h => h) (Or.inl ⟨by kernel_rfl, ?_⟩) ?_
      rotate_left 1
      · intro w; go_simp; try with_reducible rfl
      try simp only [Act.put, List.getElem_toArray, List.getElem_cons_succ, List.getElem_cons_zero, List.setIfInBounds_toArray, List.set_cons_zero, List.set_cons_succ]
      refine wpAny_take (i := 10) (v := ?_) rfl (by kernel_rfl) (by kernel_rfl) (by kernel_rfl) (fun _ _ _ h => h) (Or.inl ⟨by kernel_rfl, ?_⟩) ?_
      rotate_left 1
      · intro w; go_simp; try with_reducible rfl
      try simp only [Act.put, List.getElem_toArray, List.getElem_cons_succ, List.getElem_cons_zero, List.setIfInBounds_toArray, List.set_cons_zero, List.set_cons_succ]
      refine wpAny_take (i := 11) (v := ?_) rfl (by kernel_rfl) (by kernel_rfl) (by kernel_rfl) (fun _ _ _ h => h) (Or.inl ⟨by kernel_rfl, ?_⟩) ?_
      rotate_left 1
      · intro w; go_simp; try with_reducible rfl
      try simp only [Act.put, List.getElem_toArray, List.getElem_cons_succ, List.getElem_cons_zero, List.setIfInBounds_toArray, List.set_cons_zero, List.set_cons_succ]
      refine wpAny_take (i := 12) (v := ?_) rfl (by kernel_rfl) (by kernel_rfl) (by kernel_rfl) (fun _ _ _ h => h) (Or.inl ⟨by kernel_rfl, ?_⟩) ?_
      rotate_left 1
      · intro w; go_simp; try with_reducible rfl
      try simp only [Act.put, List.getElem_toArray, List.getElem_cons_succ, List.getElem_cons_zero, List.setIfInBounds_toArray, List.set_cons_zero, List.set_cons_succ]
      refine wpAny_take (i := 14) (v := ?_) rfl (by kernel_rfl) (by kernel_rfl) (by kernel_rfl) (fun _ _ _ h => h) (Or.inl ⟨by kernel_rfl, ?_⟩) ?_
      rotate_left 1
      · intro w; go_simp; try with_reducible rfl
      try simp only [Act.put, List.getElem_toArray, List.getElem_cons_succ, List.getElem_cons_zero, List.setIfInBounds_toArray, List.set_cons_zero, List.set_cons_succ]
      refine wpAny_take (i := 15) (v := ?_) rfl (by kernel_rfl) (by kernel_rfl) (by kernel_rfl) (fun _ _ _ h => h) (Or.inl ⟨by kernel_rfl, ?_⟩) ?_
      rotate_left 1
      · intro w; go_simp; try with_reducible rfl
      try simp only [Act.put, List.getElem_toArray, List.getElem_cons_succ, List.getElem_cons_zero, List.setIfInBounds_toArray, List.set_cons_zero, List.set_cons_succ]
      refine wpAny_take (i := 16) (v := ?_) rfl (by kernel_rfl) (by kernel_rfl) (by kernel_rfl) (fun _ _ _ h => h) (Or.inl ⟨by kernel_rfl, ?_⟩) ?_
      rotate_left 1
      · intro w; go_simp; try with_reducible rfl
      try simp only [Act.put, List.getElem_toArray, List.getElem_cons_succ, List.getElem_cons_zero, List.setIfInBounds_toArray, List.set_cons_zero, List.set_cons_succ]
      refine wpAny_take (i := 17) (v := ?_) rfl (by kernel_rfl) (by kernel_rfl) (by kernel_rfl) (fun _ _ _ h => h) (Or.inl ⟨by kernel_rfl, ?_⟩) ?_
      rotate_left 1
      · intro w; go_simp; try with_reducible rfl
      try simp only [Act.put, List.getElem_toArray, List.getElem_cons_succ, List.getElem_cons_zero, List.setIfInBounds_toArray, List.set_cons_zero, List.set_cons_succ]
      refine wpAny_take (i := 18) (v := ?_) rfl (by kernel_rfl) (by kernel_rfl) (by kernel_rfl) (fun _ _ _ h => h) (Or.inl ⟨by kernel_rfl, ?_⟩) ?_
      rotate_left 1
      · intro w; go_simp; try with_reducible rfl
      try simp only [Act.put, List.getElem_toArray, List.getElem_cons_succ, List.getElem_cons_zero, List.setIfInBounds_toArray, List.set_cons_zero, List.set_cons_succ]
      refine wpAny_ready (rs := [13, 19]) (by kernel_rfl) (by simp) (AllReady.cons rfl (fun K hK => ?_) (AllReady.cons rfl (fun K hK => ?_) AllReady.nil))
      · go_simp
        refine hK _ _ ?_
        clear hK K
        try simp only [Act.put, List.getElem_toArray, List.getElem_cons_succ, List.getElem_cons_zero, List.setIfInBounds_toArray, List.set_cons_zero, List.set_cons_succ]
        refine wpAny_ready (rs := [19]) (by kernel_rfl) (by simp) (AllReady.cons rfl (fun K hK => ?_) AllReady.nil)
        go_simp
        refine hK _ _ ?_
        clear hK K
        try simp only [Act.put, List.getElem_toArray, List.getElem_cons_succ, List.getElem_cons_zero, List.setIfInBounds_toArray, List.set_cons_zero, List.set_cons_succ]
        refine wpAny_take (i := 20) (v := ?_) rfl (by kernel_rfl) (by kernel_rfl) (by kernel_rfl) (fun _ _ _ h => h) (Or.inl ⟨by kernel_rfl, ?_⟩) ?_
        rotate_left 1
        · intro w; go_simp; try with_reducible rfl
        try simp only [Act.put, List.getElem_toArray, List.getElem_cons_succ, List.getElem_cons_zero, List.setIfInBounds_toArray, List.set_cons_zero, List.set_cons_succ]
        refine wpAny_ready (rs := [21]) (by kernel_rfl) (by simp) (AllReady.cons rfl (fun K hK => ?_) AllReady.nil)
        go_simp
        refine hK _ _ ?_
        clear hK K
        try simp only [Act.put, List.getElem_toArray, List.getElem_cons_succ, List.getElem_cons_zero, List.setIfInBounds_toArray, List.set_cons_zero, List.set_cons_succ]
        refine wpAny_take (i := 22) (v := ?_) rfl (by kernel_rfl) (by kernel_rfl) (by kernel_rfl) (fun _ _ _ h => h) (Or.inl ⟨by kernel_rfl, ?_⟩) ?_
        rotate_left 1
        · intro w; go_simp; try with_reducible rfl
        try simp only [Act.put, List.getElem_toArray, List.getElem_cons_succ, List.getElem_cons_zero, List.setIfInBounds_toArray, List.set_cons_zero, List.set_cons_succ]
        refine wpAny_ready (rs := [23]) (by kernel_rfl) (by simp) (AllReady.cons rfl (fun K hK => ?_) AllReady.nil)
        go_simp
        refine hK _ _ ?_
        clear hK K
        try simp only [Act.put, List.getElem_toArray, List.getElem_cons_succ, List.getElem_cons_zero, List.setIfInBounds_toArray, List.set_cons_zero, List.set_cons_succ]
        refine wpAny_done (by kernel_rfl) ?_ _
        go_wp2
        go_roundw
        case rel => exact ⟨j + 1, by omega, by go_num, by rw [← HEX.out]; exact HSL.out.swp_, HO.out.swp_ _ _ _ _⟩
        case measure => simp [intOf]; omega
      · go_simp
        refine hK _ _ ?_
        clear hK K
        try simp only [Act.put, List.getElem_toArray, List.getElem_cons_succ, List.getElem_cons_zero, List.setIfInBounds_toArray, List.set_cons_zero, List.set_cons_succ]
        refine wpAny_ready (rs := [13]) (by kernel_rfl) (by simp) (AllReady.cons rfl (fun K hK => ?_) AllReady.nil)
        go_simp
        refine hK _ _ ?_
        clear hK K
        try simp only [Act.put, List.getElem_toArray, List.getElem_cons_succ, List.getElem_cons_zero, List.setIfInBounds_toArray, List.set_cons_zero, List.set_cons_succ]
        refine wpAny_take (i := 20) (v := ?_) rfl (by kernel_rfl) (by kernel_rfl) (by kernel_rfl) (fun _ _ _ h => h) (Or.inl ⟨by kernel_rfl, ?_⟩) ?_
        rotate_left 1
        · intro w; go_simp; try with_reducible rfl
        try simp only [Act.put, List.getElem_toArray, List.getElem_cons_succ, List.getElem_cons_zero, List.setIfInBounds_toArray, List.set_cons_zero, List.set_cons_succ]
        refine wpAny_ready (rs := [21]) (by kernel_rfl) (by simp) (AllReady.cons rfl (fun K hK => ?_) AllReady.nil)
        go_simp
        refine hK _ _ ?_
        clear hK K
        try simp only [Act.put, List.getElem_toArray, List.getElem_cons_succ, List.getElem_cons_zero, List.setIfInBounds_toArray, List.set_cons_zero, List.set_cons_succ]
        refine wpAny_take (i := 22) (v := ?_) rfl (by kernel_rfl) (by kernel_rfl) (by kernel_rfl) (fun _ _ _ h => h) (Or.inl ⟨by kernel_rfl, ?_⟩) ?_
        rotate_left 1
        · intro w; go_simp; try with_reducible rfl
        try simp only [Act.put, List.getElem_toArray, List.getElem_cons_succ, List.getElem_cons_zero, List.setIfInBounds_toArray, List.set_cons_zero, List.set_cons_succ]
        refine wpAny_ready (rs := [23]) (by kernel_rfl) (by simp) (AllReady.cons rfl (fun K hK => ?_) AllReady.nil)
        go_simp
        refine hK _ _ ?_
        clear hK K
        try simp only [Act.put, List.getElem_toArray, List.getElem_cons_succ, List.getElem_cons_zero, List.setIfInBounds_toArray, List.set_cons_zero, List.set_cons_succ]
        refine wpAny_done (by kernel_rfl) ?_ _
        go_wp2
        go_roundw
        case rel => exact ⟨j + 1, by omega, by go_num, by rw [← HEX.out]; exact HSL.out.swp_, HO.out.swp_ _ _ _ _⟩
        case measure => simp [intOf]; omega
    · obtain rfl : j = k := by omega
      go_wp2
      go_end0
      exact ⟨rfl, HSL.out, HO.out⟩

end Go.Proofs.YtjmlcobbjpmjpaaGreatDoor
namespace Go.Proofs.YtjmlcobbjpmjpaaGreatDoor
open Go.RowKit Stb

def cmpI (a b : Int) : Int := if a < b then -1 else if a = b then 0 else 1
theorem cmpI_neg {a b : Int} : cmpI a b < 0 ↔ a < b := by
  unfold cmpI
  split
  · simp [*]
  · split <;> simp [*]
theorem isNaNI_any (a : Int) (w : World) : Calls Tryz.prog 145 #[.int .i64 a] w fun e w' => e = .returned (.bool false) ∧ w = w' := by
  have h : (a == a) = true := by simp
  go_enter Tryz.func145, Tryz.ntmps145
  go_wp2
  go_ret
  exact ⟨by simp, rfl⟩
theorem cmpCompareI_any (a b : Int) (w : World) : Calls Tryz.prog 79 #[.int .i64 a, .int .i64 b] w fun e w' => e = .returned (.int .i64 (cmpI a b)) ∧ w = w' := by
  rcases Int.lt_trichotomy a b with h | h | h
  · have HO := Lib.hid (show cmpI a b = -1 by simp [cmpI, h])
    go_enter Tryz.func79, Tryz.ntmps79
    go_wp2_with (go_at_call 145; refine (isNaNI_any _ _).mono ?_; rintro e w2 ⟨rfl, rfl⟩)
    go_ret
    exact ⟨ret_int HO.out.symm, rfl⟩
  · have HO := Lib.hid (show cmpI a b = 0 by simp [cmpI, h])
    have h1 : decide (a < b) = false := decide_eq_false (by omega)
    have h2 : decide (b < a) = false := decide_eq_false (by omega)
    have h3 : (a == b) = true := by simp [h]
    clear h
    go_enter Tryz.func79, Tryz.ntmps79
    go_wp2_with (go_at_call 145; refine (isNaNI_any _ _).mono ?_; rintro e w2 ⟨rfl, rfl⟩)
    go_ret
    exact ⟨ret_int HO.out.symm, rfl⟩
  · have HO := Lib.hid (show cmpI a b = 1 by unfold cmpI; rw [if_neg (by omega), if_neg (by omega)])
    have h1 : decide (a < b) = false := decide_eq_false (by omega)
    go_enter Tryz.func79, Tryz.ntmps79
    go_wp2_with (go_at_call 145; refine (isNaNI_any _ _).mono ?_; rintro e w2 ⟨rfl, rfl⟩)
    go_ret
    exact ⟨ret_int HO.out.symm, rfl⟩

theorem debt1_any (A : Option Addr) (n c : Nat) (l : List Bk) (d : Int) (s : ByteArray) (g2 g3 B : Nat) (w : World) (h : Reads w B 3 A n (bks l)) (hB : B ≤ w.heap.size) (hok : okBks l = true) (hd : I64 d) (k1 : w.cell? ⟨g2, 0, none⟩ = some (.slice A n c)) (k2 : w.cell? ⟨g3, 0, none⟩ = some (.int .i64 d)) :
    Calls Tryz.prog 76 #[.string s, .pointer (some ⟨g2, 0, none⟩), .pointer (some ⟨g3, 0, none⟩)] w fun e w' => e = .returned (.bool (decide (bal l s d ≤ 0))) ∧ Below w.heap.size w w' := by
  have HK := Lib.hid hok
  clear hok
  go_enter Tryz.func76, Tryz.ntmps76
  go_wp2_with fail
  refine (balanceOn_any A n c l s d B _ h hB HK.out hd).mono ?_
  rintro e w1 ⟨rfl, b1⟩
  go_wp2
  go_ret
  exact ⟨rfl, b1⟩
set_option maxHeartbeats 1000000 in
set_option maxRecDepth 100000 in
theorem debt2_any (A : Option Addr) (n c : Nat) (l : List Bk) (d : Int) (x y : ByteArray) (g2 g3 B : Nat) (w : World) (h : Reads w B 3 A n (bks l)) (hB : B ≤ w.heap.size) (hok : okBks l = true) (hd : I64 d) (k1 : w.cell? ⟨g2, 0, none⟩ = some (.slice A n c)) (k2 : w.cell? ⟨g3, 0, none⟩ = some (.int .i64 d)) :
    Calls Tryz.prog 78 #[.string x, .string y, .pointer (some ⟨g2, 0, none⟩), .pointer (some ⟨g3, 0, none⟩)] w fun e w' => e = .returned (.int .i64 (cmpI (bal l y d) (bal l x d))) ∧ Below w.heap.size w w' := by
  have HK := Lib.hid hok
  clear hok
  go_enter Tryz.func78, Tryz.ntmps78
  go_wp2_with fail
  refine wp_region_held_drew (S := (fun W => W.cell? ⟨g2, 0, none⟩ = some (.slice A n c) ∧ W.cell? ⟨g3, 0, none⟩ = some (.int .i64 d) ∧ Reads W B 3 A n (bks l) ∧ Below w.heap.size w W)) (by kernel_rfl) ?_ (fun hHeld => ?_)
  · exact ⟨k1, k2, h, (Below.refl _ _).drew⟩
  refine wpAnyH_take (i := 0) (v := ?_) rfl (by kernel_rfl) (by kernel_rfl) (by kernel_rfl) (fun _ _ _ h => h) (Or.inl ⟨by kernel_rfl, ?_⟩) (by assumption) ?_
  rotate_left 1
  · intro w hSw; (try dsimp only at hSw); (have l1 := hSw.1); (have l2 := hSw.2.1); go_simp; try with_reducible rfl
  try simp only [Act.put, List.getElem_toArray, List.getElem_cons_succ, List.getElem_cons_zero, List.setIfInBounds_toArray, List.set_cons_zero, List.set_cons_succ]
  refine wpAnyH_take (i := 1) (v := ?_) rfl (by kernel_rfl) (by kernel_rfl) (by kernel_rfl) (fun _ _ _ h => h) (Or.inl ⟨by kernel_rfl, ?_⟩) (by assumption) ?_
  rotate_left 1
  · intro w hSw; (try dsimp only at hSw); go_simp; try with_reducible rfl
  try simp only [Act.put, List.getElem_toArray, List.getElem_cons_succ, List.getElem_cons_zero, List.setIfInBounds_toArray, List.set_cons_zero, List.set_cons_succ]
  refine wpAnyH_take (i := 2) (v := ?_) rfl (by kernel_rfl) (by kernel_rfl) (by kernel_rfl) (fun _ _ _ h => h) (Or.inl ⟨by kernel_rfl, ?_⟩) (by assumption) ?_
  rotate_left 1
  · intro w hSw; (try dsimp only at hSw); (have l1 := hSw.1); (have l2 := hSw.2.1); go_simp; try with_reducible rfl
  try simp only [Act.put, List.getElem_toArray, List.getElem_cons_succ, List.getElem_cons_zero, List.setIfInBounds_toArray, List.set_cons_zero, List.set_cons_succ]
  refine wpAnyH_take (i := 4) (v := ?_) rfl (by kernel_rfl) (by kernel_rfl) (by kernel_rfl) (fun _ _ _ h => h) (Or.inl ⟨by kernel_rfl, ?_⟩) (by assumption) ?_
  rotate_left 1
  · intro w hSw; (try dsimp only at hSw); (have l1 := hSw.1); (have l2 := hSw.2.1); go_simp; try with_reducible rfl
  try simp only [Act.put, List.getElem_toArray, List.getElem_cons_succ, List.getElem_cons_zero, List.setIfInBounds_toArray, List.set_cons_zero, List.set_cons_succ]
  refine wpAnyH_take (i := 5) (v := ?_) rfl (by kernel_rfl) (by kernel_rfl) (by kernel_rfl) (fun _ _ _ h => h) (Or.inl ⟨by kernel_rfl, ?_⟩) (by assumption) ?_
  rotate_left 1
  · intro w hSw; (try dsimp only at hSw); go_simp; try with_reducible rfl
  try simp only [Act.put, List.getElem_toArray, List.getElem_cons_succ, List.getElem_cons_zero, List.setIfInBounds_toArray, List.set_cons_zero, List.set_cons_succ]
  refine wpAnyH_take (i := 6) (v := ?_) rfl (by kernel_rfl) (by kernel_rfl) (by kernel_rfl) (fun _ _ _ h => h) (Or.inl ⟨by kernel_rfl, ?_⟩) (by assumption) ?_
  rotate_left 1
  · intro w hSw; (try dsimp only at hSw); (have l1 := hSw.1); (have l2 := hSw.2.1); go_simp; try with_reducible rfl
  try simp only [Act.put, List.getElem_toArray, List.getElem_cons_succ, List.getElem_cons_zero, List.setIfInBounds_toArray, List.set_cons_zero, List.set_cons_succ]
  refine wpAnyH_ready (rs := [3]) (by kernel_rfl) (by simp) ?_
  refine AllReadyH.cons rfl (fun K hK => ?_) AllReadyH.nil
  go_simp
  go_at_call 71
  refine (balanceOn_any A n c l y d B _ hHeld.2.2.1 (by have := hHeld.2.2.2.size; omega) HK.out hd).mono ?_
  rintro e w1 ⟨rfl, b1⟩
  have b1' := b1
  clear b1
  go_wp2_with fail
  refine hK.out _ _ ?_ (fun hNew => ?_)
  · exact ⟨cell_on b1' hHeld.1, cell_on b1' hHeld.2.1, hHeld.2.2.1.on (by have := hHeld.2.2.2.size; omega) b1', bnext hHeld.2.2.2 b1' (Nat.le_refl _)⟩
  clear hK K hHeld
  have hHeld := hNew
  clear hNew
  try simp only [Act.put, List.getElem_toArray, List.getElem_cons_succ, List.getElem_cons_zero, List.setIfInBounds_toArray, List.set_cons_zero, List.set_cons_succ]
  refine wpAnyH_ready (rs := [7]) (by kernel_rfl) (by simp) ?_
  refine AllReadyH.cons rfl (fun K hK => ?_) AllReadyH.nil
  go_simp
  go_at_call 71
  refine (balanceOn_any A n c l x d B _ hHeld.2.2.1 (by have := hHeld.2.2.2.size; omega) HK.out hd).mono ?_
  rintro e w1 ⟨rfl, b1⟩
  have b1' := b1
  clear b1
  go_wp2_with fail
  refine hK.out _ _ ?_ (fun hNew => ?_)
  · exact ⟨cell_on b1' hHeld.1, cell_on b1' hHeld.2.1, hHeld.2.2.1.on (by have := hHeld.2.2.2.size; omega) b1', bnext hHeld.2.2.2 b1' (Nat.le_refl _)⟩
  clear hK K hHeld
  have hHeld := hNew
  clear hNew
  try simp only [Act.put, List.getElem_toArray, List.getElem_cons_succ, List.getElem_cons_zero, List.setIfInBounds_toArray, List.set_cons_zero, List.set_cons_succ]
  refine wpAnyH_ready (rs := [8]) (by kernel_rfl) (by simp) ?_
  refine AllReadyH.cons rfl (fun K hK => ?_) AllReadyH.nil
  go_simp
  go_at_call 79
  refine (cmpCompareI_any _ _ _).mono ?_
  rintro e w1 ⟨rfl, rfl⟩
  go_wp2_with fail
  refine hK.out _ _ ?_ (fun hNew => ?_)
  · exact hHeld
  clear hK K hHeld
  have hHeld := hNew
  clear hNew
  try simp only [Act.put, List.getElem_toArray, List.getElem_cons_succ, List.getElem_cons_zero, List.setIfInBounds_toArray, List.set_cons_zero, List.set_cons_succ]
  refine wpAnyH_take (i := 9) (v := ?_) rfl (by kernel_rfl) (by kernel_rfl) (by kernel_rfl) (fun _ _ _ h => h) (Or.inl ⟨by kernel_rfl, ?_⟩) (by assumption) ?_
  rotate_left 1
  · intro w hSw; (try dsimp only at hSw); go_simp; try with_reducible rfl
  try simp only [Act.put, List.getElem_toArray, List.getElem_cons_succ, List.getElem_cons_zero, List.setIfInBounds_toArray, List.set_cons_zero, List.set_cons_succ]
  refine wpAnyH_done (by kernel_rfl) ?_ _
  have HF := Lib.hid hHeld.2.2.2
  go_wp2
  go_ret
  exact ⟨rfl, HF.out⟩

/-- What a comparison hands back while a row is being sorted: all else that lay at the beginning is as it was. -/
def CmpAt (w0 : World) (g g2 g3 : Nat) (cf : ByteArray → ByteArray → Int) : Prop := ∀ (W : World) (x y : ByteArray), Only g (g + 1) w0 W → Calls Tryz.prog 78 #[.string x, .string y, .pointer (some ⟨g2, 0, none⟩), .pointer (some ⟨g3, 0, none⟩)] W fun e w' => e = .returned (.int .i64 (cf x y)) ∧ Below W.heap.size W w'

set_option maxHeartbeats 1000000 in
set_option maxRecDepth 100000 in
theorem rotate_any (g n c lo hi a m b : Nat) (f : Nat → ByteArray) (cb : Value) (w : World) (h : Sl w lo hi 9 1 (some ⟨g, 0, none⟩) n c (strs (row (f) n))) (ham : a < m) (hmb : m < b) (hb : b ≤ n) (hn : n ≤ 1000000000) :
    Calls Tryz.prog 216 #[.slice (some ⟨g, 0, none⟩) n c, .int .i64 (a : Int), .int .i64 (m : Int), .int .i64 (b : Int), cb] w fun e w' => e = .returned (.tuple #[]) ∧ Sl w' lo hi 9 1 (some ⟨g, 0, none⟩) n c (strs (row (rota f a m b) n)) ∧ Only g (g + 1) w w' := by
  have HH := Lib.hid h
  clear h
  obtain ⟨i0, hi0⟩ : ∃ x : Nat, (m : Int) - (a : Int) = (x : Int) := ⟨m - a, by omega⟩
  obtain ⟨j0, hj0⟩ : ∃ x : Nat, (b : Int) - (m : Int) = (x : Int) := ⟨b - m, by omega⟩
  have hiw : IntKind.i64.wrap (i0 : Int) = i0 := by rw [IntKind.wrap_i64]; omega
  have hjw : IntKind.i64.wrap (j0 : Int) = j0 := by rw [IntKind.wrap_i64]; omega
  have HST := Lib.hid (show 0 < i0 ∧ 0 < j0 ∧ i0 ≤ m ∧ m + j0 ≤ n ∧ rota f (m - i0) m (m + j0) = rota f a m b by
    refine ⟨by omega, by omega, by omega, by omega, ?_⟩
    rw [show m - i0 = a by omega, show m + j0 = b by omega])
  go_enter Tryz.func216, Tryz.ntmps216
  go_wp2
  go_loopw [10, 11] (fun p q wr => ∃ (i j : Nat) (f1 : Nat → ByteArray), (0 < i ∧ 0 < j ∧ i ≤ m ∧ m + j ≤ n) ∧ p = .int .i64 (i : Int) ∧ q = .int .i64 (j : Int) ∧ Sl wr lo hi 9 1 (some ⟨g, 0, none⟩) n c (strs (row (f1) n)) ∧ rota f1 (m - i) m (m + j) = rota f a m b ∧ Only g (g + 1) w wr) (fun p q _ => (intOf p).toNat + (intOf q).toNat)
  case atStart => exact ⟨i0, j0, f, ⟨HST.out.1, HST.out.2.1, HST.out.2.2.1, HST.out.2.2.2.1⟩, rfl, rfl, HH.out, HST.out.2.2.2.2, Only.refl _ _ _⟩
  case round =>
    obtain ⟨i, j, f1, ⟨hi1, hj1, him, hmj⟩, rfl, rfl, hsl, hro, ho⟩ := hrel
    have HSL := Lib.hid hsl
    have HO := Lib.hid ho
    have HRO := Lib.hid hro
    clear hsl ho hro HH HST hi0 hj0 hiw hjw
    obtain ⟨x, hx⟩ : ∃ x : Nat, (m : Int) - (i : Int) = (x : Int) := ⟨m - i, by omega⟩
    have hxw : IntKind.i64.wrap (x : Int) = x := by rw [IntKind.wrap_i64]; omega
    have hxe : m - i = x := by omega
    rcases Nat.lt_trichotomy i j with hlt | heq | hgt
    · have h1 : ((i : Int) != (j : Int)) = true := by rw [bne_iff_ne]; omega
      have h2 : decide ((j : Int) < (i : Int)) = false := decide_eq_false (by omega)
      have h2' : decide (j < i) = false := decide_eq_false (by omega)
      have h3 : (i != j) = true := by rw [bne_iff_ne]; omega
      have hneq : ¬ (i : Int) = (j : Int) := by omega
      have hneq2 : ¬ i = j := by omega
      obtain ⟨y, hy⟩ : ∃ y : Nat, (m : Int) + (j : Int) = (y : Int) := ⟨m + j, by omega⟩
      have hyw : IntKind.i64.wrap (y : Int) = y := by rw [IntKind.wrap_i64]; omega
      obtain ⟨z, hz⟩ : ∃ z : Nat, (y : Int) - (i : Int) = (z : Int) := ⟨y - i, by omega⟩
      have hzw : IntKind.i64.wrap (z : Int) = z := by rw [IntKind.wrap_i64]; omega
      obtain ⟨j', hj'⟩ : ∃ z : Nat, (j : Int) - (i : Int) = (z : Int) := ⟨j - i, by omega⟩
      have hjw' : IntKind.i64.wrap (j' : Int) = j' := by rw [IntKind.wrap_i64]; omega
      have HR := Lib.hid (rota_right f1 him hlt)
      rw [hxe, show m + j - i = z by omega] at HR
      go_wp2_with fail
      refine (swapRange_any g n c lo hi x z i f1 cb _ HSL.out (by omega) (by omega) hn).mono ?_
      rintro e w1 ⟨rfl, sl1, o1⟩
      have HS1 := Lib.hid sl1
      have HO1 := Lib.hid (HO.out.trans o1)
      clear sl1 o1
      go_wp2
      go_roundw
      case rel => exact ⟨i, j', exch f1 x z i, ⟨hi1, by omega, him, by omega⟩, rfl, rfl, HS1.out, by rw [← HRO.out, hxe, ← HR.out, show m + j' = z by omega], HO1.out⟩
      case measure => simp [intOf]; omega
    · subst heq
      have HR := Lib.hid (rota_same f1 him)
      rw [hxe] at HR
      go_wp2_with fail
      refine (swapRange_any g n c lo hi x m i f1 cb _ HSL.out (by omega) (by omega) hn).mono ?_
      rintro e w1 ⟨rfl, sl1, o1⟩
      have HS1 := Lib.hid sl1
      have HO1 := Lib.hid (HO.out.trans o1)
      clear sl1 o1
      go_wp2
      go_end0
      refine ⟨rfl, ?_, HO1.out⟩
      rw [← HRO.out, hxe, ← HR.out]
      exact HS1.out
    · have h1 : ((i : Int) != (j : Int)) = true := by rw [bne_iff_ne]; omega
      have h3 : (i != j) = true := by rw [bne_iff_ne]; omega
      have hneq : ¬ (i : Int) = (j : Int) := by omega
      have hneq2 : ¬ i = j := by omega
      have h2 : decide ((j : Int) < (i : Int)) = true := decide_eq_true (by omega)
      obtain ⟨i', hi'⟩ : ∃ z : Nat, (i : Int) - (j : Int) = (z : Int) := ⟨i - j, by omega⟩
      have hiw' : IntKind.i64.wrap (i' : Int) = i' := by rw [IntKind.wrap_i64]; omega
      have HR := Lib.hid (rota_left f1 him hgt)
      rw [hxe] at HR
      go_wp2_with fail
      refine (swapRange_any g n c lo hi x m j f1 cb _ HSL.out (by omega) (by omega) hn).mono ?_
      rintro e w1 ⟨rfl, sl1, o1⟩
      have HS1 := Lib.hid sl1
      have HO1 := Lib.hid (HO.out.trans o1)
      clear sl1 o1
      go_wp2
      go_roundw
      case rel => exact ⟨i', j, exch f1 x m j, ⟨by omega, hj1, by omega, hmj⟩, rfl, rfl, HS1.out, by rw [← HRO.out, hxe, ← HR.out, show m - i' = x + j by omega], HO1.out⟩
      case measure => simp [intOf]; omega

end Go.Proofs.YtjmlcobbjpmjpaaGreatDoor
namespace Go.Proofs.YtjmlcobbjpmjpaaGreatDoor
open Go.RowKit

/-- What a predicate hands back while a row is being rewritten: all else that lay at the beginning is as it was. -/
def DelAt (w0 : World) (g g2 g3 : Nat) (del : ByteArray → Bool) : Prop := ∀ (W : World) (x : ByteArray), Only g (g + 1) w0 W → Calls Tryz.prog 76 #[.string x, .pointer (some ⟨g2, 0, none⟩), .pointer (some ⟨g3, 0, none⟩)] W fun e w' => e = .returned (.bool (del x)) ∧ Below W.heap.size W w'
theorem strs_get2 {xs : List ByteArray} {k : Nat} {x : ByteArray} (h : xs[k]? = some x) : (strs xs)[k]? = some (.string x) := by simp [strs, h]
theorem strs_set2 (xs : List ByteArray) (k : Nat) (x : ByteArray) : (strs xs).set k (.string x) = strs (xs.set k x) := by simp [strs, List.map_set]
theorem Sl.setCells {lo hi n c g : Nat} {t : TypeId} : ∀ (vs : List Value) (o : Nat) (w : World) (xs : List Value), Sl w lo hi t 1 (some ⟨g, 0, none⟩) n c xs → ∃ ys, Sl (w.setCells g o vs) lo hi t 1 (some ⟨g, 0, none⟩) n c ys ∧ ys.take o = xs.take o
  | [], o, w, xs, h => ⟨xs, h, rfl⟩
  | v :: r, o, w, xs, h => by
    obtain ⟨ys, h1, h2⟩ := Sl.setCells r (o + 1) (w.setCell ⟨g, o, none⟩ v) (xs.set o v) (h.set_ o v)
    refine ⟨ys, h1, ?_⟩
    have e := congrArg (List.take o) h2
    rw [List.take_take, List.take_take, Nat.min_eq_left (Nat.le_succ o)] at e
    rw [e, List.take_set_of_le (Nat.le_refl o)]
theorem Only.setCells {a : World} {g : Nat} : ∀ (vs : List Value) (o : Nat) (w : World), Only g (g + 1) a w → Only g (g + 1) a (w.setCells g o vs)
  | [], _, _, h => h
  | v :: r, o, w, h => Only.setCells r (o + 1) _ (h.setCell (p := ⟨g, o, none⟩) (Nat.le_refl g) (Nat.lt_succ_self g) v)
/-- How far the rewriting has come. -/
structure Del1 (del : ByteArray → Bool) (xs ys : List ByteArray) (i j : Nat) : Prop where
  len : ys.length = xs.length
  ij : i < j
  jn : j ≤ xs.length
  fst : ys.take i = (xs.take j).filter fun x => !del x
  rst : ys.drop j = xs.drop j
theorem Del1.start {del : ByteArray → Bool} {xs : List ByteArray} {i : Nat} {x : ByteArray} (hx : xs[i]? = some x) (hd : del x = true) (hlo : ∀ (k : Nat) (y : ByteArray), k < i → xs[k]? = some y → del y = false) : Del1 del xs xs i (i + 1) := by
  have hi : i < xs.length := (List.getElem?_eq_some_iff.1 hx).1
  refine ⟨rfl, by omega, by omega, ?_, rfl⟩
  rw [List.take_add_one, hx]
  simp only [Option.toList_some, List.filter_append, List.filter_cons, hd, Bool.not_true, List.filter_nil, List.append_nil, Bool.false_eq_true, if_false]
  rw [List.filter_eq_self.2]
  intro y hy
  obtain ⟨k, hk, rfl⟩ := List.mem_iff_getElem.1 hy
  have hk2 : k < i := by simp at hk; omega
  rw [List.getElem_take]
  rw [hlo k _ hk2 (List.getElem?_eq_getElem (by omega))]
  rfl
theorem Del1.at {del : ByteArray → Bool} {xs ys : List ByteArray} {i j : Nat} (h : Del1 del xs ys i j) (hj : j < xs.length) : ys[j]? = xs[j]? := by
  have := congrArg (fun l => l[0]?) h.rst
  simpa using this
theorem Del1.skip {del : ByteArray → Bool} {xs ys : List ByteArray} {i j : Nat} {x : ByteArray} (h : Del1 del xs ys i j) (hx : xs[j]? = some x) (hd : del x = true) : Del1 del xs ys i (j + 1) := by
  have hj : j < xs.length := (List.getElem?_eq_some_iff.1 hx).1
  have h1 := h.ij
  refine ⟨h.len, by omega, by omega, ?_, ?_⟩
  · rw [List.take_add_one, hx, h.fst]; simp [hd]
  · have := congrArg (List.drop 1) h.rst
    simpa [List.drop_drop] using this
theorem Del1.keep {del : ByteArray → Bool} {xs ys : List ByteArray} {i j : Nat} {x : ByteArray} (h : Del1 del xs ys i j) (hx : xs[j]? = some x) (hd : del x = false) : Del1 del xs (ys.set i x) (i + 1) (j + 1) := by
  have hj : j < xs.length := (List.getElem?_eq_some_iff.1 hx).1
  have h1 := h.ij
  have h2 := h.len
  refine ⟨by simp [h.len], by omega, by omega, ?_, ?_⟩
  · have hi : i < ys.length := by omega
    have e : (ys.set i x)[i]? = some x := by simp [hi]
    rw [List.take_add_one, e, List.take_set_of_le (Nat.le_refl i), List.take_add_one (l := xs), hx, h.fst]
    simp [hd]
  · have e := congrArg (List.drop 1) h.rst
    rw [List.drop_set_of_lt (by omega)]
    simpa [List.drop_drop] using e
set_option maxHeartbeats 1000000 in
set_option maxRecDepth 100000 in
theorem indexFunc_any (g n c lo hi g2 g3 : Nat) (del : ByteArray → Bool) (xs : List ByteArray) (w0 w : World) (h : Sl w lo hi 9 1 (some ⟨g, 0, none⟩) n c (strs (xs))) (hn : n ≤ 100000000) (ho : Only g (g + 1) w0 w) (hd : DelAt w0 g g2 g3 del) :
    Calls Tryz.prog 141 #[.slice (some ⟨g, 0, none⟩) n c, .func (.func 76) #[] #[.pointer (some ⟨g2, 0, none⟩), .pointer (some ⟨g3, 0, none⟩)]] w fun e w' => ((Sl w' lo hi 9 1 (some ⟨g, 0, none⟩) n c (strs (xs)) ∧ Only g (g + 1) w0 w') ∧ ((e = .returned (.int .i64 (-1)) ∧ ∀ x ∈ xs, del x = false) ∨ ∃ (i : Nat) (x : ByteArray), e = .returned (.int .i64 (i : Int)) ∧ xs[i]? = some x ∧ del x = true ∧ ∀ (k : Nat) (y : ByteArray), k < i → xs[k]? = some y → del y = false)) := by
  have hl : xs.length = n := by have := h.len; rw [strs_length] at this; omega
  have HD := Lib.hid hd
  have HH := Lib.hid h
  have HO0 := Lib.hid ho
  have HL := Lib.hid hl
  clear h ho hd hl
  go_enter Tryz.func141, Tryz.ntmps141
  go_wp2
  go_loopw [8] (fun p wr => ∃ j : Nat, j ≤ n ∧ p = .int .i64 (j : Int) ∧ Sl wr lo hi 9 1 (some ⟨g, 0, none⟩) n c (strs (xs)) ∧ Only g (g + 1) w0 wr ∧ ∀ (k : Nat) (y : ByteArray), k < j → xs[k]? = some y → del y = false) (fun p _ => n - (intOf p).toNat)
  case atStart => exact ⟨0, Nat.zero_le _, rfl, HH.out, HO0.out, fun k y hk => by omega⟩
  case round =>
    obtain ⟨j, hj, rfl, hsl, ho, hlo⟩ := hrel
    have HSL := Lib.hid hsl
    have HO := Lib.hid ho
    have HLO := Lib.hid hlo
    clear hsl ho hlo HH HO0
    by_cases hlt : j < n
    · obtain ⟨x, hx⟩ : ∃ x, xs[j]? = some x := ⟨_, List.getElem?_eq_getElem (by have := HL.out; omega)⟩
      have cx : wr.cell? ⟨g, j, none⟩ = some (.string x) := (HSL.out.cellAt j (by have := HL.out; rw [Nat.mul_one]; omega)).trans (strs_get2 hx)
      have HX := Lib.hid hx
      have hj0 : (0 : Int) ≤ j := by omega
      have hj1 : (j : Int) < n := by omega
      clear hx
      go_wp2_with fail
      refine (HD.out _ x HO.out).mono ?_
      rintro e w1 ⟨rfl, b1⟩
      have HO1 := Lib.hid (HO.out.then b1 HO.out.size)
      have HS1 := Lib.hid (HSL.out.on b1)
      clear b1 cx
      rcases hdx : del x with _ | _
      · have HDX := Lib.hid hdx
        go_wp2
        go_roundw
        case rel => exact ⟨j + 1, by omega, by go_num, HS1.out, HO1.out, fun k y hk hy => by
          by_cases hkj : k = j
          · subst hkj; rw [HX.out] at hy; injection hy with hy; subst hy; exact HDX.out
          · exact HLO.out k y (by omega) hy⟩
        case measure => simp [intOf]; omega
      · have HDX := Lib.hid hdx
        go_wp2
        go_ret
        exact ⟨⟨HS1.out, HO1.out⟩, Or.inr ⟨j, x, rfl, HX.out, HDX.out, HLO.out⟩⟩
    · obtain rfl : j = n := by omega
      go_wp2
      go_ret
      exact ⟨⟨HSL.out, HO.out⟩, Or.inl ⟨rfl, fun x hx => by
        obtain ⟨k, hk, rfl⟩ := List.mem_iff_getElem.1 hx
        exact HLO.out k _ (by have := HL.out; omega) (List.getElem?_eq_getElem hk)⟩⟩
set_option maxHeartbeats 1000000 in
set_option maxRecDepth 100000 in
theorem deleteFunc_any (g n c lo hi g2 g3 : Nat) (del : ByteArray → Bool) (xs : List ByteArray) (w0 w : World) (h : Sl w lo hi 9 1 (some ⟨g, 0, none⟩) n c (strs (xs))) (hn : n ≤ 100000000) (hnc : n ≤ c) (ho : Only g (g + 1) w0 w) (hd : DelAt w0 g g2 g3 del) :
    Calls Tryz.prog 74 #[.slice (some ⟨g, 0, none⟩) n c, .func (.func 76) #[] #[.pointer (some ⟨g2, 0, none⟩), .pointer (some ⟨g3, 0, none⟩)]] w fun e w' => ∃ m : Nat, e = .returned (.slice (some ⟨g, 0, none⟩) m c) ∧ m ≤ n ∧ Sl w' lo hi 9 1 (some ⟨g, 0, none⟩) m c (strs (xs.filter fun x => !del x)) ∧ Only g (g + 1) w0 w' := by
  have hl : xs.length = n := by have := h.len; rw [strs_length] at this; omega
  have HD := Lib.hid hd
  have HL := Lib.hid hl
  clear hl
  go_enter Tryz.func74, Tryz.ntmps74
  go_wp2_with fail
  refine (indexFunc_any g n c lo hi g2 g3 del xs w0 _ h hn ho HD.out).mono ?_
  clear h ho hd
  rintro e w1 ⟨⟨sl1, o1⟩, ⟨rfl, hno⟩ | ⟨i0, x0, rfl, hx0, hd0, hlo⟩⟩
  · have HS1 := Lib.hid sl1
    have HO1 := Lib.hid o1
    have HNO := Lib.hid hno
    clear sl1 o1 hno
    go_wp2
    go_ret
    refine ⟨n, rfl, Nat.le_refl _, ?_, HO1.out⟩
    rw [List.filter_eq_self.2 (fun x hx => by rw [HNO.out x hx]; rfl)]
    exact HS1.out
  · have HDEL := Lib.hid (Del1.start hx0 hd0 hlo)
    have HS1 := Lib.hid sl1
    have HO1 := Lib.hid o1
    have hi0 : i0 < n := by have := (List.getElem?_eq_some_iff.1 hx0).1; have := HL.out; omega
    have hne : ((i0 : Int) == -1) = false := by rw [beq_eq_false_iff_ne]; omega
    have hneq : ¬ (i0 : Int) = -1 := by omega
    clear sl1 o1 hx0 hd0 hlo
    obtain ⟨j0, hj0⟩ : ∃ x : Nat, (i0 : Int) + 1 = (x : Int) := ⟨i0 + 1, by omega⟩
    have hj0w : IntKind.i64.wrap (j0 : Int) = j0 := by rw [IntKind.wrap_i64]; omega
    have HJ0 := Lib.hid (show j0 = i0 + 1 by omega)
    go_wp2
    go_loopw [5, 6] (fun p q wr => ∃ (i j : Nat) (ys : List ByteArray), p = .int .i64 (i : Int) ∧ q = .int .i64 (j : Int) ∧ j ≤ n ∧ i < j ∧ Del1 del xs ys i j ∧ Sl wr lo hi 9 1 (some ⟨g, 0, none⟩) n c (strs (ys)) ∧ Only g (g + 1) w0 wr) (fun p q _ => n - (intOf q).toNat)
    case atStart => exact ⟨i0, j0, xs, rfl, rfl, by omega, by have := HJ0.out; omega, by rw [HJ0.out]; exact HDEL.out, HS1.out, HO1.out⟩
    case round =>
      clear HDEL HS1 HO1 hj0 hj0w HJ0 hne hneq
      obtain ⟨i, j, ys, rfl, rfl, hjn, hij, hdel, hsl, ho⟩ := hrel
      have HSL := Lib.hid hsl
      have HO := Lib.hid ho
      have HDEL := Lib.hid hdel
      clear hsl ho hdel
      by_cases hlt : j < n
      · have hjx : j < xs.length := by have := HL.out; omega
        obtain ⟨x, hx⟩ : ∃ x, xs[j]? = some x := ⟨_, List.getElem?_eq_getElem hjx⟩
        have hyx : ys[j]? = some x := (HDEL.out.at hjx).trans hx
        have cx : wr.cell? ⟨g, j, none⟩ = some (.string x) := (HSL.out.cellAt j (by rw [Nat.mul_one]; omega)).trans (strs_get2 hyx)
        have HX := Lib.hid hx
        obtain ⟨j', hj'⟩ : ∃ x : Nat, (j : Int) + 1 = (x : Int) := ⟨j + 1, by omega⟩
        have hj'w : IntKind.i64.wrap (j' : Int) = j' := by rw [IntKind.wrap_i64]; omega
        have HJ := Lib.hid (show j' = j + 1 by omega)
        have hj0 : (0 : Int) ≤ j := by omega
        have hj1 : (j : Int) < n := by omega
        have hi1 : (0 : Int) ≤ i := by omega
        have hi2 : (i : Int) < n := by omega
        clear hx hyx hjx
        go_wp2_with fail
        refine (HD.out _ x HO.out).mono ?_
        rintro e w1 ⟨rfl, b1⟩
        have HO1 := Lib.hid (HO.out.then b1 HO.out.size)
        have HS1 := Lib.hid (HSL.out.on b1)
        clear b1 cx
        rcases hdx : del x with _ | _
        · have hyl := HDEL.out.len
          have ci : ∃ u, w1.cell? ⟨g, i, none⟩ = some u := by
            have hil : i < ys.length := by have := HL.out; omega
            exact ⟨_, (HS1.out.cellAt i (by rw [Nat.mul_one]; omega)).trans (strs_get2 (List.getElem?_eq_getElem hil))⟩
          obtain ⟨u, ci⟩ := ci
          have fi := HS1.out.frozenAt i
          obtain ⟨i', hi'⟩ : ∃ x : Nat, (i : Int) + 1 = (x : Int) := ⟨i + 1, by omega⟩
          have hi'w : IntKind.i64.wrap (i' : Int) = i' := by rw [IntKind.wrap_i64]; omega
          have HI := Lib.hid (show i' = i + 1 by omega)
          have HK := Lib.hid (HDEL.out.keep HX.out hdx)
          clear hyl
          go_wp2
          go_roundw
          case rel => exact ⟨i', j', ys.set i x, rfl, rfl, by have := HJ.out; omega, by have := HJ.out; have := HI.out; omega, by rw [HI.out, HJ.out]; exact HK.out, by rw [← strs_set2]; exact HS1.out.set_ i (.string x), HO1.out.setCell (p := ⟨g, i, none⟩) (Nat.le_refl g) (Nat.lt_succ_self g) _⟩
          case measure => have := HJ.out; simp [intOf]; omega
        · have HK := Lib.hid (HDEL.out.skip HX.out hdx)
          go_wp2
          go_roundw
          case rel => exact ⟨i, j', ys, rfl, rfl, by have := HJ.out; omega, by have := HJ.out; omega, by rw [HJ.out]; exact HK.out, HS1.out, HO1.out⟩
          case measure => have := HJ.out; simp [intOf]; omega
      · obtain rfl : j = n := by omega
        have hcl : ∀ ty, (Builtin.clear_ #[36] ty #[.slice (some ⟨g, i, none⟩) (j - i) (c - i)]).run Tryz.prog wr = .ok (.tuple #[]) (wr.setCells g i (List.replicate (j - i) (.string ⟨#[]⟩))) :=
          fun ty => Lib.run_clear_slice (P := Tryz.prog) wr 36 9 ty (.string ⟨#[]⟩) Tryz.underlying36 (fun w => by kernel_rfl) rfl rfl g i (j - i) (c - i) (by omega) (fun k hk => by
            have hkl : i + k < ys.length := by have := HL.out; have := HDEL.out.len; omega
            rw [(HSL.out.cellAt (i + k) (by rw [Nat.mul_one]; omega)).trans (strs_get2 (List.getElem?_eq_getElem hkl))]
            rfl) (fun k hk => HSL.out.frozenAt (i + k))
        have hi1 : (0 : Int) ≤ i := by omega
        have hi2 : (i : Int) ≤ j := by omega
        have hi3 : (i : Int) ≤ c := by omega
        have hi4 : i ≤ j := by omega
        have hi5 : i ≤ c := by omega
        obtain ⟨zs, hz1, hz2⟩ := HSL.out.setCells (List.replicate (j - i) (.string ⟨#[]⟩)) i
        have HZ := Lib.hid (show Sl (wr.setCells g i (List.replicate (j - i) (.string ⟨#[]⟩))) lo hi 9 1 (some ⟨g, 0, none⟩) i c (strs (xs.filter fun x => !del x)) by
          have q := hz1.cut hi4
          rw [hz2, show (strs ys).take i = strs (ys.take i) by simp [strs, List.map_take], HDEL.out.fst, List.take_of_length_le (by have := HL.out; omega)] at q
          exact q)
        have HOZ := Lib.hid (HO.out.setCells (List.replicate (j - i) (.string ⟨#[]⟩)) i)
        clear hz1 hz2
        generalize hwz : wr.setCells g i (List.replicate (j - i) (.string ⟨#[]⟩)) = wz at *
        clear hwz
        go_wp2
        go_ret
        exact ⟨i, rfl, by omega, HZ.out, HOZ.out⟩
end Go.Proofs.YtjmlcobbjpmjpaaGreatDoor
