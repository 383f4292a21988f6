/- One element appended to a slice of the call's own, at whatever place of the walk. -/
import Derived.Test.YtgcepomehgedfaaDoorApp
set_option linter.unusedVariables false
namespace Go.Proofs.YtgcepomehgedfaaDoor
open Go.RowKit

theorem wp_slOne {P : Program} {o : Oper} {a : Act} {Q : Exit → Act → World → Prop} {K : Act → World → Prop} (s x : Operand) (t : TypeId)
    (ho : o.op = .call { callee := .builtin .append, args := #[s, x], argTypes := #[t, t] })
    (e : TypeId) (zv : Value) (size bytes : Nat) (ht : P.underlying t = some (.slice e)) (hinfo : (P.info? e).map (fun i => (i.zero, i.size, i.bytes)) = some (some zv, size, bytes)) (hzs : zv.cells.size = size) (hsz : 0 < size) (hb : bytes ≤ 1000)
    {lo hi : Nat} {wr : World} {A : Option Addr} {m c : Nat} {xs : List Value} (h : Sl wr lo hi e size A m c xs) (hlo : lo ≤ wr.heap.size) (hs : a.eval s = .slice A m c)
    (news : List Value) (hd : Nat) (hhd : hd = wr.heap.size) (hx : a.eval x = .slice (some ⟨hd, 0, none⟩) 1 1) (hl : news.length = size) (h1 : ∀ u ∈ news, u.oneCell' = true) (hm : m < 100000000)
    (HK : ∀ A' c' w1, Sl w1 lo w1.heap.size e size A' (m + 1) c' (xs ++ news) → Below lo wr w1 → K (a.put o.dst (.slice A' (m + 1) c')) w1) : o.wp P a (wr.alloc (.cells news.toArray e)) K Q := by
  subst hhd
  obtain ⟨i, hi', hz, hsize, hby⟩ := info_parts hinfo
  have hAb : ∀ ad, A = some ad → lo ≤ ad.block := fun ad had => by
    rcases h.form with ⟨h0, _⟩ | ⟨g, cur, hg, h2, _⟩
    · rw [h0] at had; cases had
    · rw [hg] at had; injection had with had; subst had; exact h2
  have hown : (wr.alloc (.cells news.toArray e)).ownsRow lo e size (.slice A m c) m xs := h.1.alloc _
  obtain ⟨v', w', hr, h2, h3, h4, h5⟩ := run_append_own_at (P := P) (wr.alloc (.cells news.toArray e)) lo t o.type e i zv size bytes ht hi' hz hsize hby hzs hsz _ m xs hown ⟨wr.heap.size, 0, none⟩ 1 1 news (by omega) (news_at wr news e) h1 (by unfold maxLen; omega) (by
    calc (m + 1) * bytes ≤ 100000000 * 1000 := Nat.mul_le_mul (by omega) hb
      _ ≤ 140737488355328 := by decide) (by simp; omega)
  unfold Oper.wp execOp
  simp only [ho, resolve, invoke, builtin, Sem.run_bind, Sem.run_pure, Result.andThen_ok, List.map_toArray, List.map_cons, List.map_nil, hs, hx, hr]
  have hbel : Below lo wr w' := by
    refine ⟨h3.os, h3.tape, h3.output, ?_, fun k hk => ?_⟩
    · have := h3.size; simp at this; omega
    · rw [h3.block k (by simp; omega) (fun ee => ?_), Below.heap_alloc wr _ k (by omega)]
      cases A with
      | none => simp [Value.ownBlock] at ee
      | some ad =>
        simp [Value.ownBlock] at ee
        have := hAb ad rfl
        omega
  rcases h2.2 with ⟨hv, hn⟩ | ⟨g, cap, cur, hv, hb', hgg, hrest'⟩
  · omega
  · subst hv
    exact HK _ _ _ ⟨h2, fun ad had => by injection had with had; subst had; exact (Array.getElem?_eq_some_iff.1 hgg).1⟩ hbel
theorem wpList_slOne {P : Program} {ops : Array Oper} {rest : List Oper} {o : Oper} {a : Act} {Q : Exit → Act → World → Prop} (hgd : o.guard = none) (s x : Operand) (t : TypeId)
    (ho : o.op = .call { callee := .builtin .append, args := #[s, x], argTypes := #[t, t] })
    (e : TypeId) (zv : Value) (size bytes : Nat) (ht : P.underlying t = some (.slice e)) (hinfo : (P.info? e).map (fun i => (i.zero, i.size, i.bytes)) = some (some zv, size, bytes)) (hzs : zv.cells.size = size) (hsz : 0 < size) (hb : bytes ≤ 1000)
    {lo hi : Nat} {wr : World} {A : Option Addr} {m c : Nat} {xs : List Value} (h : Sl wr lo hi e size A m c xs) (hlo : lo ≤ wr.heap.size) (hs : a.eval s = .slice A m c)
    (news : List Value) (hd : Nat) (hhd : hd = wr.heap.size) (hx : a.eval x = .slice (some ⟨hd, 0, none⟩) 1 1) (hl : news.length = size) (h1 : ∀ u ∈ news, u.oneCell' = true) (hm : m < 100000000)
    (HK : ∀ A' c' w1, Sl w1 lo w1.heap.size e size A' (m + 1) c' (xs ++ news) → Below lo wr w1 → wpList P ops Q rest (a.put o.dst (.slice A' (m + 1) c')) w1) : wpList P ops Q (o :: rest) a (wr.alloc (.cells news.toArray e)) :=
  wpList_plain hgd fun K hK => wp_slOne s x t ho e zv size bytes ht hinfo hzs hsz hb h hlo hs news hd hhd hx hl h1 hm fun A' c' w1 k1 k2 => hK _ _ (HK A' c' w1 k1 k2)
/-- The same as a step of a region that draws. -/
theorem step_slOne {P : Program} {ops : Array Oper} {o : Oper} {a : Act} {Q : Exit → Act → World → Prop} {K : Act → World → Prop} {E : Prop} (hgd : o.guard = none) (s x : Operand) (t : TypeId)
    (ho : o.op = .call { callee := .builtin .append, args := #[s, x], argTypes := #[t, t] })
    (e : TypeId) (zv : Value) (size bytes : Nat) (ht : P.underlying t = some (.slice e)) (hinfo : (P.info? e).map (fun i => (i.zero, i.size, i.bytes)) = some (some zv, size, bytes)) (hzs : zv.cells.size = size) (hsz : 0 < size) (hb : bytes ≤ 1000)
    {lo hi : Nat} {wr : World} {A : Option Addr} {m c : Nat} {xs : List Value} (h : Sl wr lo hi e size A m c xs) (hlo : lo ≤ wr.heap.size) (hs : a.eval s = .slice A m c)
    (news : List Value) (hd : Nat) (hhd : hd = wr.heap.size) (hx : a.eval x = .slice (some ⟨hd, 0, none⟩) 1 1) (hl : news.length = size) (h1 : ∀ u ∈ news, u.oneCell' = true) (hm : m < 100000000)
    (HK : ∀ A' c' w1, Sl w1 lo w1.heap.size e size A' (m + 1) c' (xs ++ news) → Below lo wr w1 → K (a.put o.dst (.slice A' (m + 1) c')) w1) :
    if Region.wanted o (yielded ops a.tmps) = true then Oper.wp P o a (wr.alloc (.cells news.toArray e)) K Q else E := by
  have hw : Region.wanted o (yielded ops a.tmps) = true := by simp [Region.wanted, hgd]
  rw [if_pos hw]
  exact wp_slOne s x t ho e zv size bytes ht hinfo hzs hsz hb h hlo hs news hd hhd hx hl h1 hm HK
theorem Sl.low {w : World} {lo hi : Nat} {t : TypeId} {size : Nat} {A : Option Addr} {n c : Nat} {xs : List Value} (h : Sl w lo hi t size A n c xs) : Sl w lo w.heap.size t size A n c xs := by
  refine ⟨h.1, fun b hb => ?_⟩
  have := h.1.lt b.block (by subst hb; rfl)
  exact this.2
theorem Sl.drewN {w : World} {lo hi : Nat} {t : TypeId} {size : Nat} {A : Option Addr} {n c : Nat} {xs : List Value} (h : Sl w lo hi t size A n c xs) (k : Nat) : Sl (w.drewN k) lo hi t size A n c xs := h.keep fun b _ _ _ => rfl
theorem Sl.drew {w : World} {lo hi : Nat} {t : TypeId} {size : Nat} {A : Option Addr} {n c : Nat} {xs : List Value} (h : Sl w lo hi t size A n c xs) : Sl w.drew lo hi t size A n c xs := h.keep fun b _ _ _ => rfl
/-- A cell of a block below is written. -/
theorem Sl.setLow {w : World} {lo hi : Nat} {t : TypeId} {size : Nat} {A : Option Addr} {n c : Nat} {xs : List Value} (h : Sl w lo hi t size A n c xs) {p : Addr} (hp : p.block < lo) (u : Value) : Sl (w.setCell p u) lo hi t size A n c xs :=
  h.keep fun b hb _ _ => Below.heap_setCell w p u b (by omega)
end Go.Proofs.YtgcepomehgedfaaDoor
