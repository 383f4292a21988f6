/- Cells copied within memory of the call's own; an element put into a row. -/
import Derived.Test.YtnlghcpidlpfkaaApp
import Derived.Laws.CopyRow
import Derived.Laws.CopyOwn
import Derived.Lib.AppendZerosOnto
import Derived.Lib.Overlaps
import Derived.Lib.JoinLaws
set_option linter.unusedVariables false
namespace Go.Proofs.Ytnlghcpidlpfkaa
open Go.RowKit

theorem run_copy_blk {P : Program} (w : World) (dT sT ty elem : TypeId) (size g o dLen dCap : Nat) (a : Addr) (sLen sCap : Nat) (cur : Array Value) (t : TypeId) (cs : List Value)
    (hu : P.underlying dT = some (.slice elem)) (hs : (P.info? elem).map (·.size) = some size)
    (hg : w.heap[g]? = some (.cells cur t (0, 0))) (hn : cs.length = Nat.min sLen dLen * size)
    (hsrc : ∀ j v, cs[j]? = some v → w.cell? (a.add j) = some v) (hfit : o + cs.length ≤ cur.size) (h1 : ∀ v ∈ cs, v.oneCell' = true) :
    (Builtin.copy_ #[dT, sT] ty #[.slice (some ⟨g, o, none⟩) dLen dCap, .slice (some a) sLen sCap]).run P w =
      .ok (goInt (Nat.min sLen dLen)) (w.setRow g (cur.toList.take o ++ cs ++ cur.toList.drop (o + cs.length)).toArray) := by
  have hl := run_loadCells_list (P := P) w a cs hsrc
  have hst := run_storeCells_at P g o t cs 0 cur w hg (by simpa using hfit) h1
  cases hq : P.info? elem with
  | none => simp [hq] at hs
  | some i =>
    have hi : i.size = size := by simpa [hq] using hs
    simp [Builtin.copy_, run_underlying hu, Builtin.lenOf, Builtin.firstCells, sizeOf, typeInfo, hq, hi, ← hn, hl, hst]

/-- Block g is the row; all else is as it was. -/
structure Laid (g : Nat) (t : TypeId) (row : List Value) (w w' : World) : Prop where
  blk : Blk w' g t row.toArray
  os : w'.os = w.os
  tape : w'.tape = w.tape
  output : w'.output = w.output
  size : w'.heap.size = w.heap.size
  block : ∀ k, k ≠ g → w'.heap[k]? = w.heap[k]?
theorem Laid.refl {g : Nat} {t : TypeId} {row : List Value} {w : World} (h : Blk w g t row.toArray) : Laid g t row w w := ⟨h, rfl, rfl, rfl, rfl, fun _ _ => rfl⟩
theorem Laid.trans {g : Nat} {t : TypeId} {r1 r2 : List Value} {w w1 w2 : World} (h : Laid g t r1 w w1) (k : Laid g t r2 w1 w2) : Laid g t r2 w w2 :=
  ⟨k.blk, k.os.trans h.os, k.tape.trans h.tape, k.output.trans h.output, k.size.trans h.size, fun i hi => (k.block i hi).trans (h.block i hi)⟩
theorem Laid.drewN {g : Nat} {t : TypeId} {row : List Value} {w w1 : World} {n : Nat} (h : Laid g t row (w.drewN n) w1) : Laid g t row w w1 := ⟨h.blk, h.os, h.tape, h.output, h.size, h.block⟩
theorem Laid.drew {g : Nat} {t : TypeId} {row : List Value} {w w1 : World} (h : Laid g t row w.drew w1) : Laid g t row w w1 := ⟨h.blk, h.os, h.tape, h.output, h.size, h.block⟩
theorem Laid.only {g lo hi : Nat} {t : TypeId} {row : List Value} {w w' : World} (h : Laid g t row w w') (h1 : lo ≤ g) (h2 : g < hi) : Only lo hi w w' :=
  ⟨h.os, h.tape, h.output, by rw [h.size]; exact Nat.le_refl _, fun k _ hd => h.block k (by omega)⟩
theorem laid_setRow {g : Nat} {t : TypeId} {w : World} {cur : Array Value} (hg : w.heap[g]? = some (.cells cur t (0, 0))) (row : List Value) : Laid g t row w (w.setRow g row.toArray) :=
  ⟨setRow_heap w g cur row.toArray t (0, 0) hg, rfl, rfl, rfl, by simp [World.setRow], fun k hk => setRow_other w g k _ hk⟩

theorem wpList_copyBlk {P : Program} {w : World} {ops : Array Oper} {rest : List Oper} {o : Oper} {a : Act} {Q : Exit → Act → World → Prop} (hgd : o.guard = none) (d s : Operand) (dT sT : TypeId)
    (ho : o.op = .call { callee := .builtin .copy, args := #[d, s], argTypes := #[dT, sT] }) (elem : TypeId) (size : Nat) (hu : P.underlying dT = some (.slice elem)) (hsz : (P.info? elem).map (·.size) = some size)
    (g off dLen dCap : Nat) (ad : Addr) (sLen sCap : Nat) (hd : a.eval d = .slice (some ⟨g, off, none⟩) dLen dCap) (hs : a.eval s = .slice (some ad) sLen sCap)
    (o5 : Nat) (ho5 : off = o5) (cur : List Value) (t : TypeId) (hg : Blk w g t cur.toArray) (cs : List Value) (hn : cs.length = Nat.min sLen dLen * size)
    (hsrc : ∀ j v, cs[j]? = some v → w.cell? (ad.add j) = some v) (hfit : off + cs.length ≤ cur.length) (h1 : ∀ v ∈ cs, v.oneCell' = true)
    (h : ∀ w', Laid g t (splice cur o5 cs) w w' → wpList P ops Q rest (a.put o.dst (goInt (Nat.min sLen dLen))) w') : wpList P ops Q (o :: rest) a w := by
  subst ho5
  refine wpList_plain hgd fun K hK => ?_
  have hrun := run_copy_blk (P := P) w dT sT o.type elem size g off dLen dCap ad sLen sCap cur.toArray t cs hu hsz hg hn hsrc (by simpa using hfit) h1
  unfold Oper.wp
  simp [execOp, ho, resolve, invoke, builtin, hd, hs, hrun, Result.andThen]
  have := h _ (laid_setRow hg (splice cur off cs))
  exact hK _ _ (by simpa [splice] using this)

theorem step_copyBlk {P : Program} {ops : Array Oper} {o : Oper} {a : Act} {w : World} {K : Act → World → Prop} {Q : Exit → Act → World → Prop} {E : Prop} (hgd : o.guard = none) (d s : Operand) (dT sT : TypeId)
    (ho : o.op = .call { callee := .builtin .copy, args := #[d, s], argTypes := #[dT, sT] }) (elem : TypeId) (size : Nat) (hu : P.underlying dT = some (.slice elem)) (hsz : (P.info? elem).map (·.size) = some size)
    (g off dLen dCap : Nat) (ad : Addr) (sLen sCap : Nat) (hd : a.eval d = .slice (some ⟨g, off, none⟩) dLen dCap) (hs : a.eval s = .slice (some ad) sLen sCap)
    (o5 : Nat) (ho5 : off = o5) (cur : List Value) (t : TypeId) (hg : Blk w g t cur.toArray) (cs : List Value) (hn : cs.length = Nat.min sLen dLen * size)
    (hsrc : ∀ j v, cs[j]? = some v → w.cell? (ad.add j) = some v) (hfit : off + cs.length ≤ cur.length) (h1 : ∀ v ∈ cs, v.oneCell' = true)
    (h : ∀ w', Laid g t (splice cur o5 cs) w w' → K (a.put o.dst (goInt (Nat.min sLen dLen))) w') :
    if Region.wanted o (yielded ops a.tmps) = true then Oper.wp P o a w K Q else E := by
  subst ho5
  have hw : Region.wanted o (yielded ops a.tmps) = true := by simp [Region.wanted, hgd]
  rw [if_pos hw]
  have hrun := run_copy_blk (P := P) w dT sT o.type elem size g off dLen dCap ad sLen sCap cur.toArray t cs hu hsz hg hn hsrc (by simpa using hfit) h1
  unfold Oper.wp
  simp [execOp, ho, resolve, invoke, builtin, hd, hs, hrun, Result.andThen]
  have h9 := h _ (laid_setRow hg (splice cur off cs))
  simp only [splice] at h9
  exact h9

theorem splice_shift {α : Type} {cur xs vs : List α} {p q N : Nat} (hx : cur.take N = xs) (hp : p ≤ N) (hq : vs.length = q) (hN : N + q ≤ cur.length) :
    (splice (splice cur (p + q) (xs.drop p)) p vs).take (N + q) = xs.take p ++ vs ++ xs.drop p := by
  have hl : xs.length = N := by rw [← hx]; simp; omega
  have h1 : (cur.take (p + q) ++ (xs.drop p ++ cur.drop (p + q + (xs.drop p).length))).take p = xs.take p := by
    rw [List.take_append_of_le_length (by simp; omega), List.take_take, ← hx, List.take_take]
    congr 1; omega
  have h2 : (cur.take (p + q) ++ (xs.drop p ++ cur.drop (p + q + (xs.drop p).length))).drop (p + vs.length) = xs.drop p ++ cur.drop (p + q + (xs.drop p).length) := by
    have : (cur.take (p + q)).length = p + vs.length := by simp; omega
    rw [← this, List.drop_left]
  unfold splice
  rw [h1, h2, ← List.append_assoc, ← List.append_assoc]
  have : (xs.take p ++ vs ++ xs.drop p).length = N + q := by simp; omega
  rw [← this, List.take_left]
theorem splice_grow {α : Type} {row xs vs : List α} {p q N : Nat} (hx : row.take p = xs.take p) (hl : xs.length = N) (hp : p ≤ N) (hq : vs.length = q) (hN : N + q ≤ row.length) :
    (splice (splice row p vs) (p + q) (xs.drop p)).take (N + q) = xs.take p ++ vs ++ xs.drop p := by
  have h1 : (row.take p ++ (vs ++ row.drop (p + vs.length))).take (p + q) = xs.take p ++ vs := by
    have : (row.take p ++ vs).length = p + q := by simp; omega
    rw [← List.append_assoc, ← this, List.take_left, hx]
  unfold splice
  rw [h1, ← List.append_assoc]
  have : (xs.take p ++ vs ++ xs.drop p).length = N + q := by simp; omega
  rw [← this, List.take_left]
end Go.Proofs.Ytnlghcpidlpfkaa
