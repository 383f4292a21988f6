/- A slice that a loop appends to: it lies in one known block of the call's own, or in a block that is younger than the loop. -/
import Derived.Test.YtgcepomehgedfaaDoorMem
import Derived.Maps.AppendAt
set_option linter.unusedVariables false
namespace Go.Proofs.YtgcepomehgedfaaDoor
open Go.RowKit

/-- Behind w the world wr is as w was below block z, but for block b0; '.slice A m c' holds xs, in block b0 or from z on. -/
structure Acc (b0 z : Nat) (t : TypeId) (size : Nat) (w wr : World) (A : Option Addr) (m c : Nat) (xs : List Value) : Prop where
  own : wr.ownsRow 0 t size (.slice A m c) m xs
  at_ : ∀ a, A = some a → a.block = b0 ∨ z ≤ a.block
  os : wr.os = w.os
  tape : wr.tape = w.tape
  output : wr.output = w.output
  size : w.heap.size ≤ wr.heap.size
  block : ∀ k, k < z → k ≠ b0 → wr.heap[k]? = w.heap[k]?

section
variable {b0 z size m c : Nat} {t : TypeId} {w wr : World} {A : Option Addr} {xs : List Value}
theorem own_base0 {w : World} {base : Nat} {e : TypeId} {size : Nat} {v : Value} {n : Nat} {xs : List Value} (h : w.ownsRow base e size v n xs) : w.ownsRow 0 e size v n xs := by
  refine ⟨h.1, ?_⟩
  rcases h.2 with hn | ⟨g, cap, cur, h', hb, rest⟩
  · exact .inl hn
  · exact .inr ⟨g, cap, cur, h', Nat.zero_le _, rest⟩
theorem Acc.nil (w : World) (t : TypeId) (size : Nat) : Acc w.heap.size w.heap.size t size w w none 0 0 [] :=
  ⟨World.ownsRow_nil _ _ _ _, fun a h => (by cases h), rfl, rfl, rfl, Nat.le_refl _, fun _ _ _ => rfl⟩
/-- An empty slice just made. -/
theorem Acc.made (w : World) (t : TypeId) (size : Nat) : Acc w.heap.size w.heap.size t size w (w.alloc (.cells #[] t)) (some ⟨w.heap.size, 0, none⟩) 0 0 [] :=
  ⟨World.ownsRow_made w #[] 0 (Nat.zero_le _) (Nat.zero_le _) (by simp), fun a h => by injection h with h; subst h; exact .inr (Nat.le_refl _), rfl, rfl, rfl, by simp, fun k hk _ => Below.heap_alloc w _ k hk⟩
theorem Sl.made (w : World) (t : TypeId) (size : Nat) : Sl (w.alloc (.cells #[] t)) w.heap.size (w.heap.size + 1) t size (some ⟨w.heap.size, 0, none⟩) 0 0 [] :=
  ⟨World.ownsRow_made w #[] 0 (Nat.le_refl _) (Nat.zero_le _) (by simp), fun a h => by injection h with h; subst h; simp⟩
theorem Acc.start {lo hi : Nat} (h : Sl w lo hi t size A m c xs) (hA : ∀ a, A = some a → a.block = b0) (z : Nat) : Acc b0 z t size w w A m c xs :=
  ⟨own_base0 h.1, fun a ha => .inl (hA a ha), rfl, rfl, rfl, Nat.le_refl _, fun _ _ _ => rfl⟩
theorem Acc.len (h : Acc b0 z t size w wr A m c xs) : xs.length = m * size := h.own.1
/-- What stood below z, and not in block b0, stands. -/
theorem Acc.reads {B : Nat} {A' : Option Addr} {n size' : Nat} {ys : List Value} (h : Acc b0 z t size w wr A m c xs) (hr : Reads w B size' A' n ys) (hB : B ≤ z) (hne : B ≤ b0) : Reads wr B size' A' n ys :=
  hr.keep fun p hp => World.cell?_of_block (h.block p.block (by omega) (by omega))
theorem Acc.readsNe {B g : Nat} {n size' : Nat} {ys : List Value} (h : Acc b0 z t size w wr A m c xs) (hr : Reads w B size' (some ⟨g, 0, none⟩) n ys) (hB : B ≤ z) (hne : g ≠ b0) : Reads wr B size' (some ⟨g, 0, none⟩) n ys :=
  ⟨hr.1, fun hn => by
    obtain ⟨ad, e, hs, hb, hc⟩ := hr.2 hn
    injection e with e
    subst e
    exact ⟨_, rfl, hs, hb, fun j u hu => (World.cell?_of_block (h.block g (by simp at hb; omega) hne)).trans (hc j u hu)⟩⟩
theorem Acc.cell {p : Addr} (h : Acc b0 z t size w wr A m c xs) (hp : p.block < z) (hne : p.block ≠ b0) : wr.cell? p = w.cell? p := World.cell?_of_block (h.block p.block hp hne)
theorem Acc.frozen {p : Addr} (h : Acc b0 z t size w wr A m c xs) (hp : p.block < z) (hne : p.block ≠ b0) : wr.frozen? p = w.frozen? p := World.frozen?_of_block (h.block p.block hp hne)
theorem Acc.below {B : Nat} (h : Acc b0 z t size w wr A m c xs) (h1 : B ≤ b0) (h2 : B ≤ z) : Below B w wr := ⟨h.os, h.tape, h.output, h.size, fun k hk => h.block k (by omega) (by omega)⟩
theorem Acc.sl {lo : Nat} (h : Acc b0 z t size w wr A m c xs) (h1 : lo ≤ b0) (h2 : lo ≤ z) : Sl wr lo wr.heap.size t size A m c xs := by
  refine ⟨⟨h.own.1, ?_⟩, fun b hb => ?_⟩
  · rcases h.own.2 with hn | ⟨g, cap, cur, h', hb, rest⟩
    · exact .inl hn
    · refine .inr ⟨g, cap, cur, h', ?_, rest⟩
      injection h' with e1
      rcases h.at_ _ e1 with e | e <;> simp at e <;> omega
  · have := h.own.lt b.block (by subst hb; rfl)
    exact this.2
/-- The same, seen from the world as it stands. -/
theorem Acc.rebase (h : Acc b0 z t size w wr A m c xs) : Acc b0 z t size wr wr A m c xs := ⟨h.own, h.at_, rfl, rfl, rfl, Nat.le_refl _, fun _ _ _ => rfl⟩
theorem Acc.setOther {p : Addr} (h : Acc b0 z t size w wr A m c xs) (hp : p.block < z) (hne : p.block ≠ b0) (u : Value) : Acc b0 z t size (wr.setCell p u) (wr.setCell p u) A m c xs := by
  refine ⟨?_, h.at_, rfl, rfl, rfl, Nat.le_refl _, fun _ _ _ => rfl⟩
  refine ⟨h.own.1, ?_⟩
  rcases h.own.2 with hn | ⟨g, cap, cur, h', hb, hh, r⟩
  · exact .inl hn
  · refine .inr ⟨g, cap, cur, h', hb, ?_, r⟩
    injection h' with e1
    have := h.at_ _ e1
    simp only at this
    rw [Below.heap_setCell _ _ _ _ (by omega)]
    exact hh
theorem Acc.blk {g : Nat} {t' : TypeId} {cs : Array Value} (h : Acc b0 z t size w wr A m c xs) (hg : Blk w g t' cs) (hz : g < z) (hne : g ≠ b0) : Blk wr g t' cs := (h.block g hz hne).trans hg
/-- A call that turned nothing that was there, beside the gathering. -/
theorem Acc.on {w2 : World} (h : Acc b0 z t size w wr A m c xs) (hb : Below wr.heap.size wr w2) (hz : z ≤ w.heap.size) : Acc b0 z t size w w2 A m c xs :=
  ⟨h.own.kept (row := none) ⟨hb.os, hb.tape, hb.output, hb.size, fun k hk _ => hb.block k hk⟩ (by cases hv : (Value.slice A m c).ownBlock <;> simp), h.at_, hb.os.trans h.os, hb.tape.trans h.tape, hb.output.trans h.output, Nat.le_trans h.size hb.size,
    fun k hk hne => (hb.block k (Nat.lt_of_lt_of_le hk (Nat.le_trans hz h.size))).trans (h.block k hk hne)⟩
end

theorem news_at (w : World) (news : List Value) (e : TypeId) : ∀ j u, news[j]? = some u → (w.alloc (.cells news.toArray e)).cell? ((⟨w.heap.size, 0, none⟩ : Addr).add j) = some u := by
  intro j u hu
  have hadd : (⟨w.heap.size, 0, none⟩ : Addr).add j = ⟨w.heap.size, j, none⟩ := by unfold Addr.add; split <;> simp_all
  rw [hadd, World.cell?_alloc_at _ _ _ _ rfl]
  simpa using hu

theorem wpList_acc {P : Program} {ops : Array Oper} {rest : List Oper} {o : Oper} {a : Act} {Q : Exit → Act → World → Prop} (hgd : o.guard = none) (s x : Operand) (t : TypeId)
    (ho : o.op = .call { callee := .builtin .append, args := #[s, x], argTypes := #[t, t] })
    (e : TypeId) (zv : Value) (size bytes : Nat) (ht : P.underlying t = some (.slice e)) (hinfo : (P.info? e).map (fun i => (i.zero, i.size, i.bytes)) = some (some zv, size, bytes)) (hzs : zv.cells.size = size) (hsz : 0 < size) (hb : bytes ≤ 1000)
    {b0 z : Nat} {w wr : World} {A : Option Addr} {m c : Nat} {xs : List Value} (h : Acc b0 z e size w wr A m c xs) (hzw : z ≤ w.heap.size) (hs : a.eval s = .slice A m c)
    (news : List Value) (hx : a.eval x = .slice (some ⟨wr.heap.size, 0, none⟩) 1 1) (hl : news.length = size) (h1 : ∀ u ∈ news, u.oneCell' = true) (hm : m < 100000000)
    (K : ∀ A' c' w1, Acc b0 z e size w w1 A' (m + 1) c' (xs ++ news) → wpList P ops Q rest (a.put o.dst (.slice A' (m + 1) c')) w1) : wpList P ops Q (o :: rest) a (wr.alloc (.cells news.toArray e)) := by
  obtain ⟨i, hi, hz, hsize, hby⟩ := info_parts hinfo
  refine wpList_append_own_at _ hgd s x t ho 0 e i zv size bytes ht hi hz hsize hby hzs hsz _ _ _ hs (h.own.alloc _) ⟨wr.heap.size, 0, none⟩ 1 1 news hx (by omega) (news_at wr news e) h1 (by unfold maxLen; omega) ?_ (Nat.zero_le _) ?_
  · calc (m + 1) * bytes ≤ 100000000 * 1000 := Nat.mul_le_mul (by omega) hb
      _ ≤ 140737488355328 := by decide
  · intro v' w' hown hgrow _ hat
    have hwz : (wr.alloc (.cells news.toArray e)).heap.size = wr.heap.size + 1 := by simp
    have hzr : z ≤ wr.heap.size := Nat.le_trans hzw h.size
    have hrest : ∀ k, k < z → k ≠ b0 → w'.heap[k]? = w.heap[k]? := fun k hk hne => by
      rw [hgrow.block k (by omega) (fun ee => ?_), Below.heap_alloc wr _ k (by omega)]
      · exact h.block k hk hne
      · cases A with
        | none => simp [Value.ownBlock] at ee
        | some ad =>
          simp [Value.ownBlock] at ee
          rcases h.at_ ad rfl with e1 | e1 <;> omega
    have hsz' : w.heap.size ≤ w'.heap.size := Nat.le_trans h.size (by have := hgrow.size; omega)
    rcases hown.2 with ⟨hv, hn⟩ | ⟨g, cap, cur, hv, hb', hgg, hrest'⟩
    · omega
    · have hat' : g = b0 ∨ z ≤ g := by
        subst hv
        rcases hat with e1 | e1
        · cases A with
          | none => simp [Value.ownBlock] at e1
          | some ad =>
            simp [Value.ownBlock] at e1
            rcases h.at_ ad rfl with e2 | e2 <;> omega
        · simp [Value.ownBlock] at e1
          omega
      subst hv
      exact K _ _ _ ⟨hown, fun ad had => by injection had with had; subst had; exact hat', by have := hgrow.os; rw [this]; exact h.os, by have := hgrow.tape; rw [this]; exact h.tape, by have := hgrow.output; rw [this]; exact h.output, hsz', hrest⟩
/-- The same where the new row's place is spelled otherwise. -/
theorem wpList_accAt {P : Program} {ops : Array Oper} {rest : List Oper} {o : Oper} {a : Act} {Q : Exit → Act → World → Prop} (hgd : o.guard = none) (s x : Operand) (t : TypeId)
    (ho : o.op = .call { callee := .builtin .append, args := #[s, x], argTypes := #[t, t] })
    (e : TypeId) (zv : Value) (size bytes : Nat) (ht : P.underlying t = some (.slice e)) (hinfo : (P.info? e).map (fun i => (i.zero, i.size, i.bytes)) = some (some zv, size, bytes)) (hzs : zv.cells.size = size) (hsz : 0 < size) (hb : bytes ≤ 1000)
    {b0 z : Nat} {w wr : World} {A : Option Addr} {m c : Nat} {xs : List Value} (h : Acc b0 z e size w wr A m c xs) (hzw : z ≤ w.heap.size) (hs : a.eval s = .slice A m c)
    (hd : Nat) (hhd : hd = wr.heap.size) (news : List Value) (hx : a.eval x = .slice (some ⟨hd, 0, none⟩) 1 1) (hl : news.length = size) (h1 : ∀ u ∈ news, u.oneCell' = true) (hm : m < 100000000)
    (K : ∀ A' c' w1, Acc b0 z e size w w1 A' (m + 1) c' (xs ++ news) → wpList P ops Q rest (a.put o.dst (.slice A' (m + 1) c')) w1) : wpList P ops Q (o :: rest) a (wr.alloc (.cells news.toArray e)) := by
  subst hhd
  exact wpList_acc hgd s x t ho e zv size bytes ht hinfo hzs hsz hb h hzw hs news hx hl h1 hm K
end Go.Proofs.YtgcepomehgedfaaDoor
