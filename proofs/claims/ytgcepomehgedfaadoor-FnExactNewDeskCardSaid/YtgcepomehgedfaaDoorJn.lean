/- strings.Join, as the program calls it. -/
import Derived.Test.YtgcepomehgedfaaDoorSlApp
import Derived.Test.YtgcepomehgedfaaDoorOneF
import Derived.Test.YtgcepomehgedfaaDoorDecW
import Derived.Test.YtgcepomehgedfaaDoorShelf
import Derived.Lib.Join
set_option linter.unusedVariables false
namespace Go.Proofs.YtgcepomehgedfaaDoor
open Go.RowKit Go.Lib

/-- One element appended, as a step of a region that draws. -/
theorem step_oneF {P : Program} {ops : Array Oper} {o : Oper} {a : Act} {Q : Exit → Act → World → Prop} {K : Act → World → Prop} {E : Prop} (hgd : o.guard = none) (s x : Operand) (t : TypeId)
    (ho : o.op = .call { callee := .builtin .append, args := #[s, x], argTypes := #[t, t] })
    (e : TypeId) (zv : Value) (size bytes : Nat) (ht : P.underlying t = some (.slice e)) (hinfo : (P.info? e).map (fun i => (i.zero, i.size, i.bytes)) = some (some zv, size, bytes)) (hzs : zv.cells.size = size) (hsz : 0 < size) (hb : bytes ≤ 1000)
    {lo hi : Nat} {wr : World} {A : Option Addr} {m c : Nat} {xs : List Value} (h : Sl wr lo hi e size A m c xs) (hlo : lo ≤ wr.heap.size) (hs : a.eval s = .slice A m c)
    (news : List Value) (hd : Nat) (hhd : hd = wr.heap.size) (hx : a.eval x = .slice (some ⟨hd, 0, none⟩) 1 1) (hl : news.length = size) (h1 : ∀ u ∈ news, u.oneCell' = true) (hm : m < 100000000)
    (HK : ∀ A' c' w1, Sl w1 lo w1.heap.size e size A' (m + 1) c' (xs ++ news) → Below lo wr w1 → (∀ g, g < wr.heap.size → (∀ ad, A = some ad → ad.block ≠ g) → w1.heap[g]? = wr.heap[g]?) → (∀ g, g < wr.heap.size → (∀ ad, A = some ad → ad.block ≠ g) → ∀ ad, A' = some ad → ad.block ≠ g) → K (a.put o.dst (.slice A' (m + 1) c')) w1) :
    if Region.wanted o (yielded ops a.tmps) = true then Oper.wp P o a (wr.alloc (.cells news.toArray e)) K Q else E := by
  have hw : Region.wanted o (yielded ops a.tmps) = true := by simp [Region.wanted, hgd]
  rw [if_pos hw]
  exact wp_oneF s x t ho e zv size bytes ht hinfo hzs hsz hb h hlo hs news hd hhd hx hl h1 hm fun A' c' w1 k1 k2 _ k4 k5 => HK A' c' w1 k1 k2 k4 k5
theorem Sl.boxNe {w : World} {lo hi : Nat} {t : TypeId} {size : Nat} {A : Option Addr} {n c : Nat} {xs : List Value} (h : Sl w lo hi t size A n c xs) {p : Addr} (hne : ∀ ad, A = some ad → ad.block ≠ p.block) (u : Value) : Sl (w.setCell p u) lo hi t size A n c xs := by
  refine ⟨⟨h.1.1, ?_⟩, h.2⟩
  rcases h.1.2 with hn | ⟨g, cap, cur, h', hb, hg, rest⟩
  · exact .inl hn
  · refine .inr ⟨g, cap, cur, h', hb, ?_, rest⟩
    injection h' with h1
    rw [Below.heap_setCell w p u g (hne _ h1)]
    exact hg
theorem join_joinL (c : UInt8) : ∀ l : List (List UInt8), Lib.join l [c] = joinL c l
  | [] => rfl
  | [x] => by rw [join_one]; rfl
  | x :: y :: r => by
    rw [join_cons, joinL, ← join_joinL c (y :: r), join_cons]
    simp [joinTail]
theorem joinL_len (c : UInt8) (m : Nat) : ∀ l : List (List UInt8), (∀ x ∈ l, x.length ≤ m) → (joinL c l).length ≤ l.length * (m + 1)
  | [], _ => by simp [joinL]
  | [x], h => by have := h x (by simp); simp [joinL]; omega
  | x :: y :: r, h => by
    have h1 := h x (by simp)
    have ih := joinL_len c m (y :: r) (fun z hz => h z (List.mem_cons_of_mem _ hz))
    simp only [joinL, List.length_append, List.length_cons, Nat.add_mul] at ih ⊢
    omega
/-- A row of texts joined by a byte. -/
theorem strJoin_any (c : UInt8) (A : Option Addr) (n d lo hi : Nat) (xs : List ByteArray) (w : World) (h : Sl w lo hi 9 1 A n d (strs xs)) (hn : n ≤ 1048577) (hl : (joinL c (xs.map fun s => s.data.toList)).length ≤ 140737488355328) :
    Calls Tryd.prog 36 #[.slice A n d, .string ⟨#[c]⟩] w fun e w' => e = .returned (.string (asBytes (joinL c (xs.map fun s => s.data.toList)))) ∧ Below w.heap.size w w' := by
  have hx : xs.length = n := by have := h.len; simpa [strs] using this
  by_cases h0 : n = 0
  · subst h0
    obtain rfl : xs = [] := List.length_eq_zero_iff.1 hx
    refine (Tryd.strings_Join_none A d ⟨#[c]⟩ w).mono ?_
    rintro e w' ⟨rfl, rfl⟩
    exact ⟨rfl, Below.refl _ _⟩
  · rcases h.form with ⟨_, h1, _⟩ | ⟨g, cur, rfl, _, _, hb, hnd, _, ht⟩
    · exact absurd h1 h0
    · subst hx
      have hcell : ∀ (j : Nat) x, xs[j]? = some x → w.cell? ⟨g, 0 + j, none⟩ = some (.string x) := fun j x hj => by
        rw [Nat.zero_add, h.cellAt j (by have := (List.getElem?_eq_some_iff.1 hj).1; omega)]
        simp [strs, hj]
      refine (Tryd.strings_Join g 0 d xs ⟨#[c]⟩ w hcell hb.lt (by omega) hnd (by rw [show (⟨#[c]⟩ : ByteArray).data.toList = [c] from rfl, join_joinL]; exact hl)).mono ?_
      rintro e w' ⟨rfl, b⟩
      exact ⟨by rw [show (⟨#[c]⟩ : ByteArray).data.toList = [c] from rfl, join_joinL]; rfl, b⟩
end Go.Proofs.YtgcepomehgedfaaDoor
