/- Cells copied within memory of the call's own; an element put into a row. Clients: a client added: the plain law. Clients: two lists compared. What the law of the clients asks of the answers, without the program. Slices of int64: the law's comparisons, marks and their reading. The laws' small helpers: whether a code is long, lists of numbers and of texts compared and searched. The source that the draws read from: a struct in memory, its code elsewhere. The source's methods: next, pick, one, among, text; each turns the source alone. One element appended, block by block. No function of the program in sight. Clients that are drawn. Rows of clients that are drawn; a client spoilt. Booking values: their cells, lists of them, the law's copies, sizes, comparisons and marks. Bookings that are drawn. Bookings, now and then spoilt; what the laws' draws of bookings give. What the turnovers' law draws. Clients, now and then spoilt; what the laws' draws of clients give. The laws' draws for a client looked for and for a contract that is extended. -/
import Derived.Test.YtjmlcobbjpmjpaaGreatDoorMgClientsAA
import Derived.Laws.CopyRow
import Derived.Laws.CopyOwn
import Derived.Lib.AppendZerosOnto
import Derived.Lib.Overlaps
import Derived.Lib.JoinLaws
import Derived.Test.YtjmlcobbjpmjpaaGreatDoorMgClientsAB
import Derived.Laws.StructEq
import Derived.Deep.QuietTactic
import Derived.Test.YtjmlcobbjpmjpaaGreatDoorProg
import Derived.BigQuiet
import Derived.Laws.Bits64b
import Derived.Deep.RegionHeld3
import Derived.Deep.DeepCutAuto
import Derived.Laws.BytesArg
import Derived.IntWalk
set_option linter.unusedVariables false
set_option linter.unusedSimpArgs false
namespace Go.Proofs.YtjmlcobbjpmjpaaGreatDoor
open Go.RowKit

theorem run_copy_blk {P : Program} (w : World) (dT sT ty elem : TypeId) (size g o dLen dCap : Nat) (a : Addr) (sLen sCap : Nat) (cur : Array Value) (t : TypeId) (cs : List Value)
    (hu : P.underlying dT = some (.slice elem)) (hs : (P.info? elem).map (·.size) = some size)
    (hg : w.heap[g]? = some (.cells cur t (0, 0))) (hn : cs.length = Nat.min sLen dLen * size)
    (hsrc : ∀ j v, cs[j]? = some v → w.cell? (a.add j) = some v) (hfit : o + cs.length ≤ cur.size) (h1 : ∀ v ∈ cs, v.oneCell' = true) :
    (Builtin.copy_ #[dT, sT] ty #[.slice (some ⟨g, o, none⟩) dLen dCap, .slice (some a) sLen sCap]).run P w =
      .ok (goInt (Nat.min sLen dLen)) (w.setRow g (cur.toList.take o ++ cs ++ cur.toList.drop (o + cs.length)).toArray) := by
  have hl := run_loadCells_list (P := P) w a cs hsrc
  have hst := run_storeCells_at P g o t cs 0 cur w hg (by simpa using hfit) h1
  cases hq : P.info? elem with
  | none => simp [hq] at hs
  | some i =>
    have hi : i.size = size := by simpa [hq] using hs
    simp [Builtin.copy_, run_underlying hu, Builtin.lenOf, Builtin.firstCells, sizeOf, typeInfo, hq, hi, ← hn, hl, hst]

/-- Block g is the row; all else is as it was. -/
structure Laid (g : Nat) (t : TypeId) (row : List Value) (w w' : World) : Prop where
  blk : Blk w' g t row.toArray
  os : w'.os = w.os
  tape : w'.tape = w.tape
  output : w'.output = w.output
  size : w'.heap.size = w.heap.size
  block : ∀ k, k ≠ g → w'.heap[k]? = w.heap[k]?
theorem Laid.refl {g : Nat} {t : TypeId} {row : List Value} {w : World} (h : Blk w g t row.toArray) : Laid g t row w w := ⟨h, rfl, rfl, rfl, rfl, fun _ _ => rfl⟩
theorem Laid.trans {g : Nat} {t : TypeId} {r1 r2 : List Value} {w w1 w2 : World} (h : Laid g t r1 w w1) (k : Laid g t r2 w1 w2) : Laid g t r2 w w2 :=
  ⟨k.blk, k.os.trans h.os, k.tape.trans h.tape, k.output.trans h.output, k.size.trans h.size, fun i hi => (k.block i hi).trans (h.block i hi)⟩
theorem Laid.drewN {g : Nat} {t : TypeId} {row : List Value} {w w1 : World} {n : Nat} (h : Laid g t row (w.drewN n) w1) : Laid g t row w w1 := ⟨h.blk, h.os, h.tape, h.output, h.size, h.block⟩
theorem Laid.drew {g : Nat} {t : TypeId} {row : List Value} {w w1 : World} (h : Laid g t row w.drew w1) : Laid g t row w w1 := ⟨h.blk, h.os, h.tape, h.output, h.size, h.block⟩
theorem Laid.only {g lo hi : Nat} {t : TypeId} {row : List Value} {w w' : World} (h : Laid g t row w w') (h1 : lo ≤ g) (h2 : g < hi) : Only lo hi w w' :=
  ⟨h.os, h.tape, h.output, by rw [h.size]; exact Nat.le_refl _, fun k _ hd => h.block k (by omega)⟩
theorem laid_setRow {g : Nat} {t : TypeId} {w : World} {cur : Array Value} (hg : w.heap[g]? = some (.cells cur t (0, 0))) (row : List Value) : Laid g t row w (w.setRow g row.toArray) :=
  ⟨setRow_heap w g cur row.toArray t (0, 0) hg, rfl, rfl, rfl, by simp [World.setRow], fun k hk => setRow_other w g k _ hk⟩

theorem wpList_copyBlk {P : Program} {w : World} {ops : Array Oper} {rest : List Oper} {o : Oper} {a : Act} {Q : Exit → Act → World → Prop} (hgd : o.guard = none) (d s : Operand) (dT sT : TypeId)
    (ho : o.op = .call { callee := .builtin .copy, args := #[d, s], argTypes := #[dT, sT] }) (elem : TypeId) (size : Nat) (hu : P.underlying dT = some (.slice elem)) (hsz : (P.info? elem).map (·.size) = some size)
    (g off dLen dCap : Nat) (ad : Addr) (sLen sCap : Nat) (hd : a.eval d = .slice (some ⟨g, off, none⟩) dLen dCap) (hs : a.eval s = .slice (some ad) sLen sCap)
    (o5 : Nat) (ho5 : off = o5) (cur : List Value) (t : TypeId) (hg : Blk w g t cur.toArray) (cs : List Value) (hn : cs.length = Nat.min sLen dLen * size)
    (hsrc : ∀ j v, cs[j]? = some v → w.cell? (ad.add j) = some v) (hfit : off + cs.length ≤ cur.length) (h1 : ∀ v ∈ cs, v.oneCell' = true)
    (h : ∀ w', Laid g t (splice cur o5 cs) w w' → wpList P ops Q rest (a.put o.dst (goInt (Nat.min sLen dLen))) w') : wpList P ops Q (o :: rest) a w := by
  subst ho5
  refine wpList_plain hgd fun K hK => ?_
  have hrun := run_copy_blk (P := P) w dT sT o.type elem size g off dLen dCap ad sLen sCap cur.toArray t cs hu hsz hg hn hsrc (by simpa using hfit) h1
  unfold Oper.wp
  simp [execOp, ho, resolve, invoke, builtin, hd, hs, hrun, Result.andThen]
  have := h _ (laid_setRow hg (splice cur off cs))
  exact hK _ _ (by simpa [splice] using this)

theorem step_copyBlk {P : Program} {ops : Array Oper} {o : Oper} {a : Act} {w : World} {K : Act → World → Prop} {Q : Exit → Act → World → Prop} {E : Prop} (hgd : o.guard = none) (d s : Operand) (dT sT : TypeId)
    (ho : o.op = .call { callee := .builtin .copy, args := #[d, s], argTypes := #[dT, sT] }) (elem : TypeId) (size : Nat) (hu : P.underlying dT = some (.slice elem)) (hsz : (P.info? elem).map (·.size) = some size)
    (g off dLen dCap : Nat) (ad : Addr) (sLen sCap : Nat) (hd : a.eval d = .slice (some ⟨g, off, none⟩) dLen dCap) (hs : a.eval s = .slice (some ad) sLen sCap)
    (o5 : Nat) (ho5 : off = o5) (cur : List Value) (t : TypeId) (hg : Blk w g t cur.toArray) (cs : List Value) (hn : cs.length = Nat.min sLen dLen * size)
    (hsrc : ∀ j v, cs[j]? = some v → w.cell? (ad.add j) = some v) (hfit : off + cs.length ≤ cur.length) (h1 : ∀ v ∈ cs, v.oneCell' = true)
    (h : ∀ w', Laid g t (splice cur o5 cs) w w' → K (a.put o.dst (goInt (Nat.min sLen dLen))) w') :
    if Region.wanted o (yielded ops a.tmps) = true then Oper.wp P o a w K Q else E := by
  subst ho5
  have hw : Region.wanted o (yielded ops a.tmps) = true := by simp [Region.wanted, hgd]
  rw [if_pos hw]
  have hrun := run_copy_blk (P := P) w dT sT o.type elem size g off dLen dCap ad sLen sCap cur.toArray t cs hu hsz hg hn hsrc (by simpa using hfit) h1
  unfold Oper.wp
  simp [execOp, ho, resolve, invoke, builtin, hd, hs, hrun, Result.andThen]
  have h9 := h _ (laid_setRow hg (splice cur off cs))
  simp only [splice] at h9
  exact h9

theorem splice_shift {α : Type} {cur xs vs : List α} {p q N : Nat} (hx : cur.take N = xs) (hp : p ≤ N) (hq : vs.length = q) (hN : N + q ≤ cur.length) :
    (splice (splice cur (p + q) (xs.drop p)) p vs).take (N + q) = xs.take p ++ vs ++ xs.drop p := by
  have hl : xs.length = N := by rw [← hx]; simp; omega
  have h1 : (cur.take (p + q) ++ (xs.drop p ++ cur.drop (p + q + (xs.drop p).length))).take p = xs.take p := by
    rw [List.take_append_of_le_length (by simp; omega), List.take_take, ← hx, List.take_take]
    congr 1; omega
  have h2 : (cur.take (p + q) ++ (xs.drop p ++ cur.drop (p + q + (xs.drop p).length))).drop (p + vs.length) = xs.drop p ++ cur.drop (p + q + (xs.drop p).length) := by
    have : (cur.take (p + q)).length = p + vs.length := by simp; omega
    rw [← this, List.drop_left]
  unfold splice
  rw [h1, h2, ← List.append_assoc, ← List.append_assoc]
  have : (xs.take p ++ vs ++ xs.drop p).length = N + q := by simp; omega
  rw [← this, List.take_left]
theorem splice_grow {α : Type} {row xs vs : List α} {p q N : Nat} (hx : row.take p = xs.take p) (hl : xs.length = N) (hp : p ≤ N) (hq : vs.length = q) (hN : N + q ≤ row.length) :
    (splice (splice row p vs) (p + q) (xs.drop p)).take (N + q) = xs.take p ++ vs ++ xs.drop p := by
  have h1 : (row.take p ++ (vs ++ row.drop (p + vs.length))).take (p + q) = xs.take p ++ vs := by
    have : (row.take p ++ vs).length = p + q := by simp; omega
    rw [← List.append_assoc, ← this, List.take_left, hx]
  unfold splice
  rw [h1, ← List.append_assoc]
  have : (xs.take p ++ vs ++ xs.drop p).length = N + q := by simp; omega
  rw [← this, List.take_left]
end Go.Proofs.YtjmlcobbjpmjpaaGreatDoor
namespace Go.Proofs.YtjmlcobbjpmjpaaGreatDoor
open Go.RowKit

def cutCl (l : List Cl) (s : ByteArray) : Nat := l.findIdx (fun y => !sless y.name s)
theorem cutCl_eq {l : List Cl} {s : ByteArray} {i : Nat} (h : PlaceAt l s i) : cutCl l s = i := by
  have hle : cutCl l s ≤ l.length := List.findIdx_le_length
  apply Nat.le_antisymm
  · rcases Nat.lt_or_ge i (cutCl l s) with hlt | hge
    · have hi : i < l.length := by omega
      have h1 := List.not_of_lt_findIdx hlt
      have h2 := (h.2 i l[i] (List.getElem?_eq_getElem hi)).1 (by simpa using h1)
      omega
    · exact hge
  · rcases Nat.lt_or_ge (cutCl l s) i with hlt | hge
    · have hc : cutCl l s < l.length := by have := h.1; omega
      have h1 : (!sless l[cutCl l s].name s) = true := List.findIdx_getElem (w := hc)
      have h2 := (h.2 _ l[cutCl l s] (List.getElem?_eq_getElem hc)).2 hlt
      rw [h2] at h1
      cases h1
    · exact hge
def insAt {α : Type} (l : List α) (k : Nat) (x : α) : List α := l.take k ++ x :: l.drop k
theorem insAt_length {α : Type} (l : List α) (k : Nat) (x : α) : (insAt l k x).length = l.length + 1 := by
  simp [insAt]
  omega
theorem cls_app (a b : List Cl) : cls (a ++ b) = cls a ++ cls b := by simp [cls]
theorem cls_take (l : List Cl) (k : Nat) : (cls l).take (k * 5) = cls (l.take k) := by
  have h1 : cls l = cls (l.take k) ++ cls (l.drop k) := by rw [← cls_app, List.take_append_drop]
  rcases Nat.lt_or_ge l.length k with h | h
  · rw [List.take_of_length_le (show l.length ≤ k by omega), List.take_of_length_le (show (cls l).length ≤ k * 5 by rw [cls_length]; omega)]
  · have h2 : (cls (l.take k)).length = k * 5 := by rw [cls_length, List.length_take, Nat.min_eq_left h]
    rw [h1, ← h2, List.take_left]
theorem cls_drop (l : List Cl) (k : Nat) : (cls l).drop (k * 5) = cls (l.drop k) := by
  have h1 : cls l = cls (l.take k) ++ cls (l.drop k) := by rw [← cls_app, List.take_append_drop]
  rcases Nat.lt_or_ge l.length k with h | h
  · rw [List.drop_eq_nil_of_le (show l.length ≤ k by omega), List.drop_eq_nil_of_le (show (cls l).length ≤ k * 5 by rw [cls_length]; omega)]
    rfl
  · have h2 : (cls (l.take k)).length = k * 5 := by rw [cls_length, List.length_take, Nat.min_eq_left h]
    rw [h1, ← h2, List.drop_left]
theorem cls_ins (l : List Cl) (k : Nat) (x : Cl) : cls (insAt l k x) = (cls l).take (k * 5) ++ cellsCl x ++ (cls l).drop (k * 5) := by
  rw [insAt, cls_take, cls_drop, cls_app, List.append_assoc]
  rfl

def addF (l : List Cl) (x : Cl) : List Cl × Int :=
  if okCls l = true then (if okCl x = true then (if placeOf l x.name < 0 then (if 30 ≤ l.length then ([], 5) else (insAt l (cutCl l x.name) x, 0)) else ([], 4)) else ([], 2)) else ([], 1)
theorem addF_bad {l : List Cl} {x : Cl} (h : okCls l = false) : addF l x = ([], 1) := by simp [addF, h]
theorem addF_range {l : List Cl} {x : Cl} (h : okCls l = true) (hx : okCl x = false) : addF l x = ([], 2) := by simp [addF, h, hx]
theorem addF_known {l : List Cl} {x : Cl} (h : okCls l = true) (hx : okCl x = true) (hp : ¬ placeOf l x.name < 0) : addF l x = ([], 4) := by simp [addF, h, hx, hp]
theorem addF_full {l : List Cl} {x : Cl} (h : okCls l = true) (hx : okCl x = true) (hp : placeOf l x.name < 0) (hl : 30 ≤ l.length) : addF l x = ([], 5) := by simp [addF, h, hx, hp, hl]
theorem addF_ok {l : List Cl} {x : Cl} (h : okCls l = true) (hx : okCl x = true) (hp : placeOf l x.name < 0) (hl : ¬ 30 ≤ l.length) {i : Nat} (hi : PlaceAt l x.name i) : addF l x = (insAt l i x, 0) := by
  have := cutCl_eq hi
  unfold addF
  rw [if_pos h, if_pos hx, if_pos hp, if_neg hl, this]
theorem addF_len (l : List Cl) (x : Cl) : (addF l x).1.length ≤ 31 := by
  unfold addF
  split
  · split
    · split
      · split
        · simp
        · simp only [insAt_length]; omega
      · simp
    · simp
  · simp
theorem cntAddClient_len {l : List Cl} {x : Cl} {m : Nat} (h : (cls (addF l x).1).length = m * 5) : m ≤ 1048576 := by
  rw [cls_length] at h
  have := addF_len l x
  omega
/-- What comes ahead of a place and what does not: from the end downward. -/
theorem placeAt_mk {l : List Cl} {s : ByteArray} {k : Nat} (hok : okCls l = true) (hk : k ≤ l.length) (hhi : ∀ (j : Nat) (y : Cl), k ≤ j → l[j]? = some y → sless y.name s = false) (hlo : k = 0 ∨ ∃ y, l[k - 1]? = some y ∧ sless y.name s = true) : PlaceAt l s k := by
  refine ⟨hk, fun j y hy => ⟨fun hs => ?_, fun hj => ?_⟩⟩
  · rcases Nat.lt_or_ge j k with h | h
    · exact h
    · rw [hhi j y h hy] at hs; cases hs
  · rcases hlo with h0 | ⟨z, hz, hs⟩
    · omega
    · rcases Nat.lt_or_ge j (k - 1) with h | h
      · obtain ⟨d, hd⟩ : ∃ d, k - 1 = j + 1 + d := ⟨k - 1 - j - 1, by omega⟩
        rw [hd] at hz
        exact sless_trans (okCls_up hok hy d z hz) hs
      · obtain rfl : j = k - 1 := by omega
        rw [hz] at hy; injection hy with hy; subst hy; exact hs
theorem sless_total {a b : ByteArray} (h1 : sless a b = false) (h2 : sless b a = false) : a.toList = b.toList := by
  simp only [sless, bytesLt, decide_eq_false_iff_not] at *
  exact List.le_antisymm (by simpa using h2) (by simpa using h1)
theorem sless_asymm {a b : ByteArray} (h : sless a b = true) : sless b a = false := by
  rcases h2 : sless b a with _ | _
  · rfl
  · have := sless_ne (sless_trans h h2)
    simp at this
/-- A name that no client has comes ahead of a client's, or behind. -/
theorem lost_less {l : List Cl} {s : ByteArray} (hp : placeOf l s < 0) {j : Nat} {y : Cl} (hy : l[j]? = some y) (h : sless s y.name = false) : sless y.name s = true := by
  rcases h2 : sless y.name s with _ | _
  · exfalso
    have he := sless_total h2 h
    have := idxI_nonneg (hit s) l
    rw [any_of hy (by simp [hit, he])] at this
    have := of_decide_eq_true this
    unfold placeOf at hp
    omega
  · rfl
end Go.Proofs.YtjmlcobbjpmjpaaGreatDoor
namespace Go.Proofs.YtjmlcobbjpmjpaaGreatDoor
open Go.RowKit

def sameCl (x y : Cl) : Bool := x.name.toList == y.name.toList && (x.station == y.station && (x.from_ == y.from_ && (x.to_ == y.to_ && x.quota == y.quota)))
def rowSameC (l l' : List Cl) (i : Nat) : Bool := match l[i]?, l'[i]? with
  | some x, some y => sameCl x y
  | _, _ => false
theorem rowSameC_at {l l' : List Cl} {i : Nat} {x y : Cl} (h : l[i]? = some x) (h' : l'[i]? = some y) : rowSameC l l' i = sameCl x y := by simp [rowSameC, h, h']
def sameCls (l l' : List Cl) : Bool := decide (l.length = l'.length) && (List.range l.length).all (rowSameC l l')
theorem range_atC {n k : Nat} (h : k < n) : (List.range n)[k]? = some k := by simp [h]
theorem sameCl_refl (x : Cl) : sameCl x x = true := by simp [sameCl]
theorem sameCls_refl (l : List Cl) : sameCls l l = true := by
  simp only [sameCls, Bool.and_eq_true, List.all_eq_true]
  refine ⟨by simp, fun i hi => ?_⟩
  have hi' : i < l.length := by simpa using hi
  rw [rowSameC_at (List.getElem?_eq_getElem hi') (List.getElem?_eq_getElem hi')]
  exact sameCl_refl _

set_option maxHeartbeats 4000000 in
theorem specSameClients_any (A : Option Addr) (n c : Nat) (l : List Cl) (A' : Option Addr) (n' c' : Nat) (l' : List Cl) (B : Nat) (w : World) (h : Reads w B 5 A n (cls l)) (h' : Reads w B 5 A' n' (cls l')) (hB : B ≤ w.heap.size) (hn : n ≤ 1048576) (hn' : n' ≤ 1048576) :
    Calls Tryz.prog 43 #[.slice A n c, .slice A' n' c'] w fun e w' => e = .returned (.bool (sameCls l l')) ∧ Below w.heap.size w w' := by
  have hl := Lib.hid (cls_len h)
  have hl' := Lib.hid (cls_len h')
  by_cases hnn : n = n'
  · subst hnn
    go_enter Tryz.func43, Tryz.ntmps43
    go_wp2
    go_loopw [5] (fun i wr => ∃ k : Nat, k ≤ n ∧ i = .int .i64 k ∧ AllTo (rowSameC l l') (List.range n) k ∧ Below w.heap.size w wr) (fun i _ => n - (intOf i).toNat)
    case atStart => exact ⟨0, Nat.zero_le _, rfl, AllTo.zero _ _, Below.refl _ _⟩
    case round =>
      obtain ⟨k, hk, rfl, hall, hbel⟩ := hrel
      have HA := Lib.hid hall
      have HBe := Lib.hid hbel
      clear hall
      by_cases hlt : k < n
      · obtain ⟨x, b, off, he, rfl, hb, c0, c1, c2, c3, c4⟩ := cl_at (h.on hB hbel) hlt
        obtain ⟨y, b', off', he', rfl, hb', d0, d1, d2, d3, d4⟩ := cl_at (h'.on hB hbel) hlt
        have hi0 : (0 : Int) ≤ k := by omega
        have hi1 : (k : Int) < n := by omega
        have HR := Lib.hid (rowSameC_at he he')
        clear he he' h h' hbel
        rcases hb1 : (x.name.toList == y.name.toList) with _ | _
        · have HO := Lib.hid (show sameCls l l' = false by simp only [sameCls, all_bad (range_atC (show k < l.length by have := hl.out; omega)) (HR.out.trans (by simp [sameCl, hb1])), Bool.and_false])
          go_wp2_with fail
          go_quiet (fail)
          go_wp2
          go_ret
          exact ⟨ret_bool HO.out.symm, below_drewN HBe.out _⟩
        · skip
          rcases hb2 : (x.station == y.station) with _ | _
          · have HO := Lib.hid (show sameCls l l' = false by simp only [sameCls, all_bad (range_atC (show k < l.length by have := hl.out; omega)) (HR.out.trans (by simp [sameCl, hb1, hb2])), Bool.and_false])
            go_wp2_with fail
            go_quiet (fail)
            go_wp2
            go_ret
            exact ⟨ret_bool HO.out.symm, below_drewN HBe.out _⟩
          · skip
            rcases hb3 : (x.from_ == y.from_) with _ | _
            · have HO := Lib.hid (show sameCls l l' = false by simp only [sameCls, all_bad (range_atC (show k < l.length by have := hl.out; omega)) (HR.out.trans (by simp [sameCl, hb1, hb2, hb3])), Bool.and_false])
              go_wp2_with fail
              go_quiet (fail)
              go_wp2
              go_ret
              exact ⟨ret_bool HO.out.symm, below_drewN HBe.out _⟩
            · skip
              rcases hb4 : (x.to_ == y.to_) with _ | _
              · have HO := Lib.hid (show sameCls l l' = false by simp only [sameCls, all_bad (range_atC (show k < l.length by have := hl.out; omega)) (HR.out.trans (by simp [sameCl, hb1, hb2, hb3, hb4])), Bool.and_false])
                go_wp2_with fail
                go_quiet (fail)
                go_wp2
                go_ret
                exact ⟨ret_bool HO.out.symm, below_drewN HBe.out _⟩
              · skip
                rcases hb5 : (x.quota == y.quota) with _ | _
                · have HO := Lib.hid (show sameCls l l' = false by simp only [sameCls, all_bad (range_atC (show k < l.length by have := hl.out; omega)) (HR.out.trans (by simp [sameCl, hb1, hb2, hb3, hb4, hb5])), Bool.and_false])
                  go_wp2_with fail
                  go_quiet (fail)
                  go_wp2
                  go_ret
                  exact ⟨ret_bool HO.out.symm, below_drewN HBe.out _⟩
                · have HT := Lib.hid (HR.out.trans (show sameCl x y = true by simp [sameCl, hb1, hb2, hb3, hb4, hb5]))
                  go_wp2_with fail
                  go_quiet (fail)
                  go_wp2
                  go_roundw
                  case rel => exact ⟨k + 1, by omega, by go_num, HA.out.step (range_atC hlt) HT.out, below_drewN HBe.out _⟩
                  case measure => simp [intOf]; omega
      · obtain rfl : k = n := by omega
        have HO := Lib.hid (show sameCls l l' = true by simp only [sameCls, hl.out, hl'.out, HA.out.done (by simp)]; simp)
        go_wp2
        go_ret
        exact ⟨ret_bool HO.out.symm, hbel⟩
  · have HO := Lib.hid (show sameCls l l' = false by simp [sameCls, hl.out, hl'.out, hnn])
    have hne : ((n : Int) != (n' : Int)) = true := by rw [bne_iff_ne]; omega
    clear hnn
    go_enter Tryz.func43, Tryz.ntmps43
    go_wp2
    go_ret
    exact ⟨ret_bool HO.out.symm, Below.refl _ _⟩

set_option maxHeartbeats 4000000 in
theorem eqClS_any (A : Option Addr) (n c : Nat) (l : List Cl) (A' : Option Addr) (n' c' : Nat) (l' : List Cl) (B : Nat) (w : World) (h : Reads w B 5 A n (cls l)) (h' : Reads w B 5 A' n' (cls l')) (hB : B ≤ w.heap.size) (hn : n ≤ 1048576) (hn' : n' ≤ 1048576) :
    Calls Tryz.prog 114 #[.slice A n c, .slice A' n' c'] w fun e w' => e = .returned (.bool (sameCls l l')) ∧ Below w.heap.size w w' := by
  have hl := Lib.hid (cls_len h)
  have hl' := Lib.hid (cls_len h')
  by_cases hnn : n = n'
  · subst hnn
    go_enter Tryz.func114, Tryz.ntmps114
    go_wp2
    go_loopw [13] (fun i wr => ∃ k : Nat, k ≤ n ∧ i = .int .i64 k ∧ AllTo (rowSameC l l') (List.range n) k ∧ Below w.heap.size w wr) (fun i _ => n - (intOf i).toNat)
    case atStart => exact ⟨0, Nat.zero_le _, rfl, AllTo.zero _ _, Below.refl _ _⟩
    case round =>
      obtain ⟨k, hk, rfl, hall, hbel⟩ := hrel
      have HA := Lib.hid hall
      have HBe := Lib.hid hbel
      clear hall
      by_cases hlt : k < n
      · obtain ⟨x, b, off, he, rfl, hb, c0, c1, c2, c3, c4⟩ := cl_at (h.on hB hbel) hlt
        obtain ⟨y, b', off', he', rfl, hb', d0, d1, d2, d3, d4⟩ := cl_at (h'.on hB hbel) hlt
        have hi0 : (0 : Int) ≤ k := by omega
        have hi1 : (k : Int) < n := by omega
        have HR := Lib.hid (rowSameC_at he he')
        clear he he' h h' hbel
        rcases hb1 : (x.name.toList == y.name.toList) with _ | _
        · have HO := Lib.hid (show sameCls l l' = false by simp only [sameCls, all_bad (range_atC (show k < l.length by have := hl.out; omega)) (HR.out.trans (by simp [sameCl, hb1])), Bool.and_false])
          go_wp2_with fail
          go_quiet (fail)
          go_wp2
          go_ret
          exact ⟨ret_bool HO.out.symm, below_drewN HBe.out _⟩
        · skip
          rcases hb2 : (x.station == y.station) with _ | _
          · have HO := Lib.hid (show sameCls l l' = false by simp only [sameCls, all_bad (range_atC (show k < l.length by have := hl.out; omega)) (HR.out.trans (by simp [sameCl, hb1, hb2])), Bool.and_false])
            go_wp2_with fail
            go_quiet (fail)
            go_wp2
            go_ret
            exact ⟨ret_bool HO.out.symm, below_drewN HBe.out _⟩
          · skip
            rcases hb3 : (x.from_ == y.from_) with _ | _
            · have HO := Lib.hid (show sameCls l l' = false by simp only [sameCls, all_bad (range_atC (show k < l.length by have := hl.out; omega)) (HR.out.trans (by simp [sameCl, hb1, hb2, hb3])), Bool.and_false])
              go_wp2_with fail
              go_quiet (fail)
              go_wp2
              go_ret
              exact ⟨ret_bool HO.out.symm, below_drewN HBe.out _⟩
            · skip
              rcases hb4 : (x.to_ == y.to_) with _ | _
              · have HO := Lib.hid (show sameCls l l' = false by simp only [sameCls, all_bad (range_atC (show k < l.length by have := hl.out; omega)) (HR.out.trans (by simp [sameCl, hb1, hb2, hb3, hb4])), Bool.and_false])
                go_wp2_with fail
                go_quiet (fail)
                go_wp2
                go_ret
                exact ⟨ret_bool HO.out.symm, below_drewN HBe.out _⟩
              · skip
                rcases hb5 : (x.quota == y.quota) with _ | _
                · have HO := Lib.hid (show sameCls l l' = false by simp only [sameCls, all_bad (range_atC (show k < l.length by have := hl.out; omega)) (HR.out.trans (by simp [sameCl, hb1, hb2, hb3, hb4, hb5])), Bool.and_false])
                  go_wp2_with fail
                  go_quiet (fail)
                  go_wp2
                  go_ret
                  exact ⟨ret_bool HO.out.symm, below_drewN HBe.out _⟩
                · have HT := Lib.hid (HR.out.trans (show sameCl x y = true by simp [sameCl, hb1, hb2, hb3, hb4, hb5]))
                  go_wp2_with fail
                  go_quiet (fail)
                  go_wp2
                  go_roundw
                  case rel => exact ⟨k + 1, by omega, by go_num, HA.out.step (range_atC hlt) HT.out, below_drewN HBe.out _⟩
                  case measure => simp [intOf]; omega
      · obtain rfl : k = n := by omega
        have HO := Lib.hid (show sameCls l l' = true by simp only [sameCls, hl.out, hl'.out, HA.out.done (by simp)]; simp)
        go_wp2
        go_ret
        exact ⟨ret_bool HO.out.symm, hbel⟩
  · have HO := Lib.hid (show sameCls l l' = false by simp [sameCls, hl.out, hl'.out, hnn])
    have hne : ((n : Int) != (n' : Int)) = true := by rw [bne_iff_ne]; omega
    clear hnn
    go_enter Tryz.func114, Tryz.ntmps114
    go_wp2
    go_ret
    exact ⟨ret_bool HO.out.symm, Below.refl _ _⟩

theorem implSameClients_any (A : Option Addr) (n c : Nat) (l : List Cl) (A' : Option Addr) (n' c' : Nat) (l' : List Cl) (B : Nat) (w : World) (h : Reads w B 5 A n (cls l)) (h' : Reads w B 5 A' n' (cls l')) (hB : B ≤ w.heap.size) (hn : n ≤ 1048576) (hn' : n' ≤ 1048576) :
    Calls Tryz.prog 45 #[.slice A n c, .slice A' n' c'] w fun e w' => e = .returned (.bool (sameCls l l')) ∧ Below w.heap.size w w' := by
  go_enter Tryz.func45, Tryz.ntmps45
  go_wp2_with fail
  refine (eqClS_any A n c l A' n' c' l' B _ h h' hB hn hn').mono ?_
  rintro e w1 ⟨rfl, b1⟩
  go_wp2
  go_ret
  exact ⟨rfl, b1⟩
end Go.Proofs.YtjmlcobbjpmjpaaGreatDoor
namespace Go.Proofs.YtjmlcobbjpmjpaaGreatDoor
open Go.RowKit

theorem lt_tri : ∀ (x y : List UInt8), ¬ x < y → x ≠ y → y < x
  | [], [], _, h => absurd rfl h
  | [], b :: y, h, _ => absurd (List.nil_lt_cons b y) h
  | a :: x, [], _, _ => List.nil_lt_cons a x
  | a :: x, b :: y, h, k => by
    rw [List.cons_lt_cons_iff] at h ⊢
    rcases Nat.lt_trichotomy a.toNat b.toNat with q | q | q
    · exact absurd (.inl (UInt8.lt_iff_toNat_lt.2 q)) h
    · obtain rfl := UInt8.toNat_inj.1 q
      exact .inr ⟨rfl, lt_tri x y (fun e => h (.inr ⟨rfl, e⟩)) (fun e => k (by rw [e]))⟩
    · exact .inl (UInt8.lt_iff_toNat_lt.2 q)
theorem sless_tot {a b : ByteArray} (h : sless a b = false) (k : (a.toList == b.toList) = false) : sless b a = true := by
  simp only [sless, bytesLt, decide_eq_false_iff_not, decide_eq_true_eq] at *
  exact lt_tri _ _ h (by simpa using k)
theorem okCl_good {x : Cl} (h : okCl x = true) : x.good ∧ x.small := by
  obtain ⟨hn, h1, h2, h3, h4⟩ := okCl_iff.1 h
  have := (isName_len hn).2
  exact ⟨⟨by omega, ⟨by omega, by omega⟩, ⟨by omega, by omega⟩, ⟨by omega, by omega⟩, ⟨by omega, by omega⟩⟩, by unfold Cl.small; omega⟩
theorem okCls_iff {l : List Cl} : okCls l = true ↔ (∀ x ∈ l, okCl x = true) ∧ l.Pairwise (fun x y => sless x.name y.name = true) ∧ l.length ≤ 30 := by
  constructor
  · intro h
    refine ⟨fun x hx => okCl_iff.2 (okCls_mem h x hx), ?_, okCls_len h⟩
    rw [List.pairwise_iff_getElem]
    intro i j hi hj hij
    exact okCls_up h (List.getElem?_eq_getElem hi) (j - i - 1) l[j] (by rw [show i + 1 + (j - i - 1) = j by omega]; exact List.getElem?_eq_getElem hj)
  · rintro ⟨h1, h2, h3⟩
    simp only [okCls, Bool.and_eq_true, decide_eq_true_eq, List.all_eq_true]
    refine ⟨fun i hi => ?_, h3⟩
    have hi : i < l.length := by simpa using hi
    rw [List.pairwise_iff_getElem] at h2
    rcases Nat.eq_zero_or_pos i with e | e
    · subst e; exact rowCl_zero (List.getElem?_eq_getElem hi) (h1 _ (List.getElem_mem hi))
    · exact rowCl_ok (List.getElem?_eq_getElem hi) (h1 _ (List.getElem_mem hi)) (List.getElem?_eq_getElem (show i - 1 < l.length by omega)) (h2 (i - 1) i (by omega) hi (by omega))
theorem okCls_all {l : List Cl} (h : okCls l = true) : (∀ x ∈ l, x.small) ∧ (∀ x ∈ l, x.good) :=
  ⟨fun x hx => (okCl_good ((okCls_iff.1 h).1 x hx)).2, fun x hx => (okCl_good ((okCls_iff.1 h).1 x hx)).1⟩
/-- The client that stands in a list is found there by its name. -/
theorem clientF_mem {l : List Cl} {i : Nat} {x : Cl} (h : okCls l = true) (hx : l[i]? = some x) : clientF l x.name = (x, 0) := by
  have hp : placeOf l x.name = (i : Int) := by
    refine idxI_found hx (by simp [hit]) (fun j y hj hy => ?_)
    have := sless_ne (okCls_up h hy (i - j - 1) x (by rw [show j + 1 + (i - j - 1) = i by omega]; exact hx))
    simp [hit, this]
  exact clientF_ok (by rw [namedF_some h (by omega), hp]) hx
theorem place_hit {l : List Cl} {s : ByteArray} {i : Nat} {x : Cl} (h : placeOf l s = (i : Int)) (hx : l[i]? = some x) : x.name = s := by
  unfold placeOf idxI at h
  rcases hf : l.findIdx? (hit s) with _ | j
  · rw [hf] at h; simp at h
  · rw [hf] at h
    have hji : j = i := by
      have : (j : Int) = i := by simpa using h
      omega
    subst hji
    obtain ⟨hj, h1, _⟩ := List.findIdx?_eq_some_iff_getElem.1 hf
    have hjx : l[j] = x := by rw [List.getElem?_eq_getElem hj] at hx; injection hx
    rw [hjx] at h1
    have h2 : x.name.toList = s.toList := by simpa [hit] using h1
    rw [Go.ByteArray.toList_eq, Go.ByteArray.toList_eq] at h2
    exact bytes_ext h2
/-- The list with one contract's end moved is in order. -/
theorem okCls_ext {l : List Cl} {i : Nat} {x : Cl} {t : Int} (h : okCls l = true) (hx : l[i]? = some x) (h1 : x.from_ + 1 ≤ t) (h2 : t ≤ 20000) : okCls (l.set i {x with to_ := t}) = true := by
  obtain ⟨hi, rfl⟩ := List.getElem?_eq_some_iff.1 hx
  obtain ⟨g1, g2, g3⟩ := okCls_iff.1 h
  have hx1 := g1 _ (List.getElem_mem hi)
  refine okCls_iff.2 ⟨fun y hy => ?_, ?_, by simpa using g3⟩
  · rcases List.mem_or_eq_of_mem_set hy with e | e
    · exact g1 y e
    · subst e
      obtain ⟨hn, a1, a2, a3, a4⟩ := okCl_iff.1 hx1
      exact okCl_iff.2 ⟨hn, a1, a2, ⟨h1, h2⟩, a4⟩
  · rw [List.pairwise_iff_getElem] at g2 ⊢
    have nm : ∀ (a : Nat) (ha : a < l.length) (ha' : a < (l.set i {l[i] with to_ := t}).length), (l.set i {l[i] with to_ := t})[a].name = l[a].name := by
      intro a ha ha'
      rw [List.getElem_set]
      split
      · rename_i e; subst e; rfl
      · rfl
    intro a b ha hb hab
    have ha2 : a < l.length := by simpa using ha
    have hb2 : b < l.length := by simpa using hb
    rw [nm a ha2 ha, nm b hb2 hb]
    exact g2 a b ha2 hb2 hab
theorem placeAt_cut {l : List Cl} {s : ByteArray} (h : okCls l = true) : PlaceAt l s (cutCl l s) := by
  have hle : cutCl l s ≤ l.length := List.findIdx_le_length
  refine ⟨hle, fun k x hx => ?_⟩
  obtain ⟨hk, rfl⟩ := List.getElem?_eq_some_iff.1 hx
  constructor
  · intro hs
    rcases Nat.lt_or_ge k (cutCl l s) with hlt | hge
    · exact hlt
    · exfalso
      have hc : cutCl l s < l.length := by omega
      have h1 : (!sless l[cutCl l s].name s) = true := List.findIdx_getElem (w := hc)
      have h2 : sless l[cutCl l s].name s = true := by
        rcases Nat.lt_or_ge (cutCl l s) k with q | q
        · exact sless_trans (okCls_up h (List.getElem?_eq_getElem hc) (k - cutCl l s - 1) l[k] (by rw [show cutCl l s + 1 + (k - cutCl l s - 1) = k by omega]; exact hx)) hs
        · have e : cutCl l s = k := by omega
          have : l[cutCl l s] = l[k] := by congr
          rw [this]; exact hs
      rw [h2] at h1; cases h1
  · intro hlt
    have h1 := List.not_of_lt_findIdx (show k < List.findIdx (fun y => !sless y.name s) l from hlt)
    simpa using h1
theorem insAt_mem {l : List Cl} {i : Nat} {x y : Cl} (h : y ∈ insAt l i x) : y = x ∨ y ∈ l := by
  unfold insAt at h
  rcases List.mem_append.1 h with h | h
  · exact .inr (List.mem_of_mem_take h)
  · rcases List.mem_cons.1 h with h | h
    · exact .inl h
    · exact .inr (List.mem_of_mem_drop h)
theorem insAt_at {l : List Cl} {i : Nat} {x : Cl} (hi : i ≤ l.length) : (insAt l i x)[i]? = some x := by
  unfold insAt
  rw [List.getElem?_append_right (by simp; omega)]
  simp [Nat.min_eq_left hi]
/-- The list with one client more is in order. -/
theorem okCls_ins {l : List Cl} {x : Cl} {i : Nat} (h : okCls l = true) (hx : okCl x = true) (hp : placeOf l x.name < 0) (hl : l.length < 30) (hi : PlaceAt l x.name i) : okCls (insAt l i x) = true := by
  obtain ⟨g1, g2, g3⟩ := okCls_iff.1 h
  refine okCls_iff.2 ⟨fun y hy => ?_, ?_, by rw [insAt_length]; omega⟩
  · rcases insAt_mem hy with e | e
    · subst e; exact hx
    · exact g1 y e
  · have e1 : l.take i ++ l.drop i = l := List.take_append_drop i l
    have g2' := g2
    rw [← e1, List.pairwise_append] at g2'
    obtain ⟨p1, p2, p3⟩ := g2'
    have up : ∀ y ∈ l.take i, sless y.name x.name = true := by
      intro y hy
      obtain ⟨k, hk, rfl⟩ := List.mem_iff_getElem.1 hy
      have hk2 : k < i ∧ k < l.length := by simp at hk; omega
      rw [List.getElem_take]
      exact (hi.2 k _ (List.getElem?_eq_getElem hk2.2)).2 hk2.1
    have dn : ∀ y ∈ l.drop i, sless x.name y.name = true := by
      intro y hy
      obtain ⟨k, hk, rfl⟩ := List.mem_iff_getElem.1 hy
      have hk2 : i + k < l.length := by simp at hk; omega
      rw [List.getElem_drop]
      have hns : sless l[i + k].name x.name = false := by
        rcases hs : sless l[i + k].name x.name with _ | _
        · rfl
        · have := (hi.2 (i + k) _ (List.getElem?_eq_getElem hk2)).1 hs
          omega
      refine sless_tot hns ?_
      rcases hh : (l[i + k].name.toList == x.name.toList) with _ | _
      · rfl
      · exfalso
        have hq : l.findIdx? (hit x.name) ≠ none := by
          rw [ne_eq, List.findIdx?_eq_none_iff]
          intro hc
          have := hc _ (List.getElem_mem hk2)
          simp [hit] at this hh
          exact this hh
        unfold placeOf idxI at hp
        rcases hf : l.findIdx? (hit x.name) with _ | j
        · exact hq hf
        · rw [hf] at hp; simp at hp; omega
    unfold insAt
    rw [List.pairwise_append]
    refine ⟨p1, List.pairwise_cons.2 ⟨dn, p2⟩, fun a ha b hb => ?_⟩
    rcases List.mem_cons.1 hb with e | e
    · subst e; exact up a ha
    · exact p3 a ha b e

/-- A text that a client has, read back. -/
theorem rc_text (x : Cl) : rcF (textCl x) = if okCl x = true then (x, true) else (⟨⟨#[]⟩, 0, 0, 0, 0⟩, false) := by
  rcases h : okCl x with _ | _
  · rw [textCl_no h, rcF_none (parseCl_three (by decide))]
    rfl
  · rw [rcF_some (parse_text h)]
    rfl
theorem text_ne (x : Cl) : ((textCl x).toList == (⟨#[]⟩ : ByteArray).toList) = !okCl x := by
  rcases h : okCl x with _ | _
  · rw [textCl_no h]; simp
  · rw [Bool.not_true, beq_eq_false_iff_ne]
    intro e
    have e2 : textCl x = ⟨#[]⟩ := by
      rw [Go.ByteArray.toList_eq, Go.ByteArray.toList_eq] at e
      exact bytes_ext e
    have := parse_text h
    rw [e2, parseCl_three (by decide)] at this
    cases this
/-- A contract extended. -/
theorem ext_zero {l : List Cl} {s : ByteArray} {d : Int} (h : (extF l s d).2 = 0) : ∃ x x' : Cl, clientF l s = (x, 0) ∧ clientF (extF l s d).1 s = (x', 0) ∧ x'.to_ = x.to_ + d ∧ (0 ≤ x.to_ + d ∧ x.to_ + d ≤ 20000) ∧ okCls l = true ∧ okCls (extF l s d).1 = true := by
  rcases hq : inR d 1 20000 with _ | _
  · exfalso
    have hz : (namedF l s false).2 ≠ 0 := by
      rcases h1 : okCls l with _ | _
      · rw [namedF_bad h1]; simp
      · rw [namedF_else h1]; simp
    rw [extF_bad hq hz] at h
    exact hz h
  · by_cases h0 : (namedF l s true).2 = 0
    · obtain ⟨hok, i, x, hn, hx⟩ := named_cases h0
      have hd := inR_true.1 hq
      by_cases hf : 20000 < x.to_ + d
      · rw [extF_far hq hn hx hf] at h; simp at h
      · have hxo := okCl_iff.1 ((okCls_iff.1 hok).1 x (List.mem_of_getElem? hx))
        have hok2 := okCls_ext (t := x.to_ + d) hok hx (by omega) (by omega)
        have hnm : x.name = s := by
          have hpl : placeOf l s = (i : Int) := by
            by_cases h2 : placeOf l s < 0
            · rw [namedF_none hok h2] at hn; simp at hn
            · rw [namedF_some hok h2] at hn; simpa using hn
          exact place_hit hpl hx
        refine ⟨x, {x with to_ := x.to_ + d}, clientF_ok hn hx, ?_, rfl, ⟨by omega, by omega⟩, hok, ?_⟩
        · rw [extF_ok hq hn hx hf]
          have hi : i < l.length := (List.getElem?_eq_some_iff.1 hx).1
          have := clientF_mem (i := i) (x := {x with to_ := x.to_ + d}) hok2 (by rw [List.getElem?_set_self hi])
          rw [← hnm]
          exact this
        · rw [extF_ok hq hn hx hf]
          exact hok2
    · exfalso
      rw [extF_bad hq h0] at h
      exact h0 h
/-- A client added. -/
theorem add_zero {l : List Cl} {x : Cl} (h : (addF l x).2 = 0) : okCl x = true ∧ okCls (addF l x).1 = true ∧ (addF l x).1.length = l.length + 1 ∧ clientF (addF l x).1 x.name = (x, 0) ∧ (1 ≤ x.to_ ∧ x.to_ ≤ 20000) ∧ (∀ d, activeOnF (addF l x).1 d = if inR d 0 20000 = true then (namesTo (fun y => active y d) (addF l x).1 (addF l x).1.length, 0) else ([], 2)) ∧ (∀ d, hasW (namesTo (fun y => active y d) (addF l x).1 (addF l x).1.length) x.name = active x d) := by
  rcases h1 : okCls l with _ | _
  · rw [addF_bad h1] at h; simp at h
  · rcases h2 : okCl x with _ | _
    · rw [addF_range h1 h2] at h; simp at h
    · by_cases h3 : placeOf l x.name < 0
      · by_cases h4 : 30 ≤ l.length
        · rw [addF_full h1 h2 h3 h4] at h; simp at h
        · have hi := placeAt_cut (s := x.name) h1
          have e := addF_ok h1 h2 h3 h4 hi
          have ho := okCls_ins h1 h2 h3 (by omega) hi
          have hx := insAt_at (x := x) hi.1
          obtain ⟨_, _, a2, a3, _⟩ := okCl_iff.1 h2
          rw [e]
          refine ⟨rfl, ho, insAt_length _ _ _, clientF_mem ho hx, ⟨by omega, by omega⟩, fun d => ?_, fun d => hasW_names ho hx⟩
          rcases hd : inR d 0 20000 with _ | _
          · rw [activeOnF_day ho hd]; rfl
          · rw [activeOnF_ok ho hd]; rfl
      · rw [addF_known h1 h2 h3] at h; simp at h
theorem active_last {x : Cl} (h : okCl x = true) : active x (x.to_ - 1) = true ∧ active x x.to_ = false ∧ inR (x.to_ - 1) 0 20000 = true ∧ inR x.to_ 0 20000 = true := by
  obtain ⟨_, _, a2, a3, _⟩ := okCl_iff.1 h
  refine ⟨inR_true.2 ⟨by omega, by omega⟩, inR_false.2 (by omega), inR_true.2 ⟨by omega, by omega⟩, inR_true.2 ⟨by omega, by omega⟩⟩
end Go.Proofs.YtjmlcobbjpmjpaaGreatDoor
namespace Go.Proofs.YtjmlcobbjpmjpaaGreatDoor
open Go.RowKit

theorem int_at {w : World} {B n k : Nat} {A : Option Addr} {l : List Int} (h : Reads w B 1 A n (ints l)) (hk : k < n) :
    ∃ (x : Int) (b off : Nat), l[k]? = some x ∧ A = some ⟨b, off, none⟩ ∧ b < B ∧ w.cell? ⟨b, off + k, none⟩ = some (.int .i64 x) := by
  obtain ⟨b, off, rfl, hb, hcell⟩ := h.at_ (by omega)
  have hl := h.1
  rw [ints_length] at hl
  have he : l[k]? = some l[k] := List.getElem?_eq_getElem (by omega)
  exact ⟨_, b, off, he, rfl, hb, hcell _ _ (ints_get he)⟩
theorem ints_len {w : World} {B n : Nat} {A : Option Addr} {l : List Int} (h : Reads w B 1 A n (ints l)) : l.length = n := by
  have := h.1
  rw [ints_length] at this
  omega

/-- The law's comparison of two slices that read alike. -/
theorem eqInt64S_same (A A' : Option Addr) (n c c' B : Nat) (l : List Int) (w : World) (h : Reads w B 1 A n (ints l)) (h' : Reads w B 1 A' n (ints l)) (hn : n ≤ 1048576) (hB : B ≤ w.heap.size) :
    Calls Tryz.prog 130 #[.slice A n c, .slice A' n c'] w fun e w' => e = .returned (.bool true) ∧ Below w.heap.size w w' := by
  go_enter Tryz.func130, Tryz.ntmps130
  go_wp2
  go_loopw [5] (fun i wr => ∃ k : Nat, k ≤ n ∧ i = .int .i64 k ∧ Below w.heap.size w wr) (fun i _ => n - (intOf i).toNat)
  case atStart => exact ⟨0, Nat.zero_le _, rfl, Below.refl _ _⟩
  case round =>
    obtain ⟨k, hk, rfl, hbel⟩ := hrel
    by_cases hlt : k < n
    · obtain ⟨x, b, off, he, rfl, hb, c0⟩ := int_at (h.on hB hbel) hlt
      obtain ⟨x', b', off', he', rfl, hb', c1⟩ := int_at (h'.on hB hbel) hlt
      obtain rfl : x = x' := by rw [he] at he'; injection he'
      have HB := Lib.hid hbel
      have hlt' : (k : Int) < n := by omega
      have hk0 : (0 : Int) ≤ k := by omega
      clear he he' hbel h h'
      go_wp2_with fail
      go_quiet (fail)
      go_wp2
      go_roundw
      case rel => exact ⟨k + 1, by omega, by go_num, below_drewN HB.out _⟩
      case measure => simp [intOf]; omega
    · obtain rfl : k = n := by omega
      go_wp2
      go_ret
      exact ⟨rfl, hbel⟩

end Go.Proofs.YtjmlcobbjpmjpaaGreatDoor
namespace Go.Proofs.YtjmlcobbjpmjpaaGreatDoor
open Go.RowKit

theorem f6big_any (A : Option Addr) (n c : Nat) (w : World) (hn : n ≤ 9223372036854775807) :
    Calls Tryz.prog 7 #[.slice A n c] w fun e w' => e = .returned (.bool (decide (4096 < n))) ∧ w = w' := by
  by_cases h : 4096 < n
  · rw [decide_eq_true h]
    go_enter Tryz.func7, Tryz.ntmps7
    go_wp2
    go_ret
    exact ⟨ret_bool (by simp; omega), rfl⟩
  · rw [decide_eq_false h]
    go_enter Tryz.func7, Tryz.ntmps7
    go_wp2
    go_ret
    exact ⟨ret_bool (by simp; omega), rfl⟩
end Go.Proofs.YtjmlcobbjpmjpaaGreatDoor
namespace Go.Proofs.YtjmlcobbjpmjpaaGreatDoor
open Go.RowKit Go.ChangeShapes Go.WideShapes Go.Deep

def byts (l : List Int) : List Value := l.map (.int .u8)
theorem byts_length (l : List Int) : (byts l).length = l.length := by simp [byts]
theorem byts_get {l : List Int} {i : Nat} {x : Int} (h : l[i]? = some x) : (byts l)[i]? = some (.int .u8 x) := by simp [byts, h]
def Byt (x : Int) : Prop := 0 ≤ x ∧ x ≤ 255
theorem byts_flat (l : List Int) : l.flatMap (fun x => [Value.int .u8 x]) = byts l := by
  induction l with
  | nil => rfl
  | cons a l ih => simp [byts] at ih ⊢; exact ih
section
variable {H : Type} {enc : TypeId × Value → H} {w : World}
theorem open_code {d : DataW H} {p : List MemPlace} {A : Option Addr} {len cap : Nat} (h : DataW.Trod enc Tryz.prog w 0 (fun _ => true) true 22 (.slice A len cap) d p) :
    ∃ l : List Int, len ≤ 9223372036854775807 ∧ Reads w w.heap.size 1 A len (byts l) ∧ ∀ x ∈ l, Byt x := by
  obtain ⟨fuel, hf⟩ := h
  obtain ⟨A', len', cap', l, hcs, hn, hr, hg⟩ := open_list (fun x : Int => [Value.int .u8 x]) 1 Byt (fun _ => rfl) Tryz.underlying22 (by kernel_rfl) (by omega) (fun n cs' y hl ht => by
    obtain ⟨v, rfl⟩ := List.length_eq_one_iff.1 hl
    obtain ⟨x0, rfl, hw⟩ := field_int Tryz.underlying5 ht
    exact ⟨x0, rfl, bounds_u8 hw⟩) hf
  simp [Value.cells] at hcs
  obtain ⟨rfl, rfl, rfl⟩ := hcs
  rw [byts_flat] at hr
  exact ⟨l, hn, hr, hg⟩
end

/-- The source lies in block g; it has been asked at most k times; its code lies below it. -/
def Src (g k : Nat) (w : World) : Prop :=
  ∃ (A : Option Addr) (n c : Nat) (bs : List Int) (a : Nat) (sd : Int), Blk w g 157 #[.slice A n c, .int .i64 (a : Int), .int .u64 sd] ∧ Reads w g 1 A n (byts bs) ∧ a ≤ k ∧ (∀ x ∈ bs, Byt x) ∧ n ≤ 9223372036854775807 ∧ 0 ≤ sd ∧ sd ≤ 18446744073709551615
section
variable {g k k' lo hi : Nat} {w w' : World}
theorem Src.lt (h : Src g k w) : g < w.heap.size := by obtain ⟨_, _, _, _, _, _, h, _⟩ := h; exact h.lt
theorem Src.keep (h : Src g k w) (hk : ∀ i, i < g + 1 → w'.heap[i]? = w.heap[i]?) : Src g k w' := by
  obtain ⟨A, n, c, bs, a, sd, h1, h2, h3⟩ := h
  exact ⟨A, n, c, bs, a, sd, (hk g (by omega)).trans h1, h2.keep fun p hp => World.cell?_of_block (hk p.block (by omega)), h3⟩
theorem Src.on (h : Src g k w) (hb : Below w.heap.size w w') : Src g k w' := h.keep fun i hi => hb.block i (by have := h.lt; omega)
theorem Src.below {B : Nat} (h : Src g k w) (hb : Below B w w') (hg : g < B) : Src g k w' := h.keep fun i hi => hb.block i (by omega)
theorem Src.apart (h : Src g k w) (ho : Only lo hi w w') (hg : g < lo) : Src g k w' := h.keep fun i hi => ho.block i (by have := h.lt; omega) (by omega)
theorem Src.more (h : Src g k w) (hk : k ≤ k') : Src g k' w := by
  obtain ⟨A, n, c, bs, a, sd, h1, h2, h3, h4⟩ := h
  exact ⟨A, n, c, bs, a, sd, h1, h2, by omega, h4⟩
theorem Src.alloc (h : Src g k w) (o : Obj) : Src g k (w.alloc o) := h.keep fun i hi => Below.heap_alloc w o i (by have := h.lt; omega)
theorem Src.set_ (h : Src g k w) {p : Addr} (hp : g < p.block) (u : Value) : Src g k (w.setCell p u) := h.keep fun i hi => Below.heap_setCell w p u i (by omega)
end
/-- A cell of a block that is younger. -/
theorem Only.far {lo hi : Nat} {a w : World} (h : Only lo hi a w) {p : Addr} (hp : a.heap.size ≤ p.block) (u : Value) : Only lo hi a (w.setCell p u) :=
  ⟨h.os, h.tape, h.output, by simpa [World.setCell] using h.size, fun i hi' hd => (Below.heap_setCell w p u i (by omega)).trans (h.block i hi' hd)⟩
theorem Only.then {lo hi B : Nat} {a w w' : World} (h : Only lo hi a w) (hb : Below B w w') (hB : a.heap.size ≤ B) : Only lo hi a w' :=
  ⟨hb.os.trans h.os, hb.tape.trans h.tape, hb.output.trans h.output, Nat.le_trans h.size hb.size, fun i hi' hd => (hb.block i (by omega)).trans (h.block i hi' hd)⟩
theorem Sl.farSet {w : World} {lo hi size n c : Nat} {t : TypeId} {A : Option Addr} {xs : List Value} (h : Sl w lo hi t size A n c xs) {p : Addr} (hp : hi ≤ p.block) (u : Value) : Sl (w.setCell p u) lo hi t size A n c xs := h.keep fun b _ h2 _ => Below.heap_setCell w p u b (by omega)
theorem Sl.up {w : World} {lo hi size n c : Nat} {t : TypeId} {A : Option Addr} {xs : List Value} (h : Sl w lo hi t size A n c xs) (o : Obj) : Sl (w.alloc o) lo hi t size A n c xs := h.on ((Below.refl _ _).alloc (Nat.le_refl _) _)
theorem src_new {w : World} {A : Option Addr} {n c : Nat} {bs : List Int} (h : Reads w w.heap.size 1 A n (byts bs)) (hb : ∀ x ∈ bs, Byt x) (hn : n ≤ 9223372036854775807) :
    Src w.heap.size 0 (w.alloc (.cells #[.slice A n c, .int .i64 0, .int .u64 0] 157)) :=
  ⟨A, n, c, bs, 0, 0, Blk.new w _ _, h.on (Nat.le_refl _) ((Below.refl _ _).alloc (Nat.le_refl _) _), Nat.le_refl _, hb, hn, by omega, by omega⟩
/-- What a pick of n numbers may be. -/
def PickR (n x : Int) : Prop := 0 ≤ x ∧ (n ≤ 1 → x = 0) ∧ (1 < n → x < n) ∧ x ≤ 65535
theorem PickR.lt {n x : Int} (h : PickR n x) (hn : 0 < n) : x < n := by
  rcases Int.lt_or_le 1 n with h1 | h1
  · exact h.2.2.1 h1
  · have := h.2.1 h1; omega
theorem pickR_mod {n y : Int} (h0 : 0 ≤ y) (h1 : y ≤ 65535) (hn : 1 < n) : PickR n (y % n) := by
  have a := Int.emod_nonneg y (show n ≠ 0 by omega)
  have b := Int.emod_lt_of_pos y (show 0 < n by omega)
  refine ⟨a, by omega, fun _ => b, ?_⟩
  rcases Int.lt_or_le y n with h | h
  · rw [Int.emod_eq_of_lt h0 h]; exact h1
  · omega
end Go.Proofs.YtjmlcobbjpmjpaaGreatDoor
namespace Go.Proofs.YtjmlcobbjpmjpaaGreatDoor
open Go.RowKit

theorem byt_at {w : World} {B n k : Nat} {A : Option Addr} {l : List Int} (h : Reads w B 1 A n (byts l)) (hk : k < n) :
    ∃ (x : Int) (b off : Nat), l[k]? = some x ∧ A = some ⟨b, off, none⟩ ∧ b < B ∧ w.cell? ⟨b, off + k, none⟩ = some (.int .u8 x) := by
  obtain ⟨b, off, rfl, hb, hcell⟩ := h.at_ (by omega)
  have hl := h.1
  rw [byts_length] at hl
  have he : l[k]? = some l[k] := List.getElem?_eq_getElem (by omega)
  exact ⟨_, b, off, he, rfl, hb, hcell _ _ (byts_get he)⟩

theorem wrap_u64_le (n : Int) : IntKind.u64.wrap n ≤ 18446744073709551615 := by rw [IntKind.wrap_u64]; omega
theorem wrap_u64_ge (n : Int) : 0 ≤ IntKind.u64.wrap n := by rw [IntKind.wrap_u64]; omega
theorem byt_bits {s : Int} (h0 : 0 ≤ s) (h1 : s ≤ 18446744073709551615) : Byt (wrap64 (bits BinOp.and IntKind.u64 (s / 1099511627776) 255)) := by
  obtain ⟨q, hq⟩ := Int.eq_ofNat_of_zero_le (show 0 ≤ s / 1099511627776 by omega)
  rw [hq]
  have e : bits BinOp.and IntKind.u64 (q : Int) 255 = ((q &&& 255 : Nat) : Int) := bits_and_u64_nat q 255 (by omega) (by omega)
  rw [e]
  have hle : q &&& 255 ≤ 255 := Nat.and_le_right
  generalize q &&& 255 = y at hle ⊢
  have : wrap64 (y : Int) = y := by simp only [wrap64]; omega
  rw [this]
  unfold Byt
  omega
/-- The source behind one question more. -/
theorem src_set {g k n c a : Nat} {A : Option Addr} {bs : List Int} {sd sd2 : Int} {w : World} (hb : Blk w g 157 #[.slice A n c, .int .i64 (a : Int), .int .u64 sd]) (hr : Reads w g 1 A n (byts bs)) (hby : ∀ x ∈ bs, Byt x) (ha : a ≤ k) (hn : n ≤ 9223372036854775807) (h0 : 0 ≤ sd2) (h1 : sd2 ≤ 18446744073709551615) (m m2 : Nat) :
    Src g (k + 1) ((((w.drewN m).setCell ⟨g, 1, none⟩ (.int .i64 ((a : Int) + 1))).setCell ⟨g, 2, none⟩ (.int .u64 sd2)).drewN m2) ∧ Only g (g + 1) w ((((w.drewN m).setCell ⟨g, 1, none⟩ (.int .i64 ((a : Int) + 1))).setCell ⟨g, 2, none⟩ (.int .u64 sd2)).drewN m2) := by
  have ho : Only g (g + 1) w ((((w.drewN m).setCell ⟨g, 1, none⟩ (.int .i64 ((a : Int) + 1))).setCell ⟨g, 2, none⟩ (.int .u64 sd2)).drewN m2) := ((((Only.refl g (g + 1) w).drewN m).setCell (p := ⟨g, 1, none⟩) (Nat.le_refl g) (Nat.lt_succ_self g) _).setCell (p := ⟨g, 2, none⟩) (Nat.le_refl g) (Nat.lt_succ_self g) _).drewN m2
  refine ⟨⟨A, n, c, bs, a + 1, sd2, ?_, hr.keep fun p hp => World.cell?_of_block (ho.block p.block (by have := hb.lt; omega) (by omega)), by omega, hby, hn, h0, h1⟩, ho⟩
  have := (((hb.drewN m).set_ 1 (.int .i64 ((a : Int) + 1))).set_ 2 (.int .u64 sd2)).drewN m2
  simpa using this
theorem l00From_any (A : Option Addr) (n c : Nat) (bs : List Int) (w : World) (h : Reads w w.heap.size 1 A n (byts bs)) (hb : ∀ x ∈ bs, Byt x) (hn : n ≤ 9223372036854775807) :
    Calls Tryz.prog 57 #[.slice A n c] w fun e w' => e = .returned (.pointer (some ⟨w.heap.size, 0, none⟩)) ∧ Src w.heap.size 0 w' ∧ Below w.heap.size w w' ∧ w.heap.size < w'.heap.size := by
  have HS := Lib.hid (src_new (c := c) h hb hn)
  clear h hb
  go_enter Tryz.func57, Tryz.ntmps57
  go_wp2
  go_ret
  exact ⟨rfl, HS.out, (Below.refl _ _).alloc (Nat.le_refl _) _, by simp⟩

set_option maxRecDepth 100000 in
theorem next_any (g k : Nat) (w : World) (h : Src g k w) (hk : k ≤ 1000000000000) :
    Calls Tryz.prog 133 #[.pointer (some ⟨g, 0, none⟩)] w fun e w' => ∃ x : Int, e = .returned (.int .i64 x) ∧ Byt x ∧ Src g (k + 1) w' ∧ Only g (g + 1) w w' := by
  obtain ⟨A, n, c, bs, a, sd, hb, hr, ha, hby, hn, hs0, hs1⟩ := h
  have q0 : w.cell? ⟨g, 0, none⟩ = some (.slice A n c) := hb.cellAt 0 (by simp)
  have q1 : w.cell? ⟨g, 1, none⟩ = some (.int .i64 (a : Int)) := hb.cellAt 1 (by simp)
  have q2 : w.cell? ⟨g, 2, none⟩ = some (.int .u64 sd) := hb.cellAt 2 (by simp)
  have f1 := hb.frozen 1
  have f2 := hb.frozen 2
  have HB := Lib.hid hb
  have HR := Lib.hid hr
  have HY := Lib.hid hby
  clear hb hby
  by_cases hlt : a < n
  · obtain ⟨x, b, off, hx, rfl, hbl, c0⟩ := byt_at hr hlt
    have hxb := HY.out x (List.mem_of_getElem? hx)
    unfold Byt at hxb
    have hne : ¬ b = g := by omega
    clear hx hr
    go_enter Tryz.func133, Tryz.ntmps133
    go_wp2_with fail
    go_quiet (fail)
    go_wp2_with fail
    go_quiet (fail)
    go_wp2_with fail
    generalize hsd : IntKind.u64.wrap (IntKind.u64.wrap (IntKind.u64.wrap (sd * 6364136223846793005) + x) + 1442695040888963407) = sd2
    have hsd0 : 0 ≤ sd2 := by rw [← hsd]; exact wrap_u64_ge _
    have hsd1 : sd2 ≤ 18446744073709551615 := by rw [← hsd]; exact wrap_u64_le _
    clear hsd
    have HW := Lib.hid (fun m m2 => src_set (A := some ⟨b, off, none⟩) (n := n) (c := c) (a := a) (sd2 := sd2) HB.out HR.out HY.out ha hn hsd0 hsd1 m m2)
    go_quiet (fail)
    go_wp2
    go_ret
    exact ⟨x, rfl, hxb, (HW.out _ _).1, (HW.out _ _).2⟩
  · have hlt' : decide ((a : Int) < n) = false := by simp; omega
    clear hr
    go_enter Tryz.func133, Tryz.ntmps133
    go_wp2_with fail
    go_quiet (fail)
    go_wp2_with fail
    generalize hsd : IntKind.u64.wrap (IntKind.u64.wrap (IntKind.u64.wrap (sd * 6364136223846793005)) + 1442695040888963407) = sd2
    have hsd0 : 0 ≤ sd2 := by rw [← hsd]; exact wrap_u64_ge _
    have hsd1 : sd2 ≤ 18446744073709551615 := by rw [← hsd]; exact wrap_u64_le _
    clear hsd
    have HW := Lib.hid (fun m m2 => src_set (A := A) (n := n) (c := c) (a := a) (sd2 := sd2) HB.out HR.out HY.out ha hn hsd0 hsd1 m m2)
    have hl2 : decide ((a : Int) + 1 ≤ n) = false := by simp; omega
    go_quiet (fail)
    go_wp2_with fail
    go_ret
    refine ⟨_, rfl, ?_, (HW.out _ _).1, (HW.out _ _).2⟩
    exact byt_bits hsd0 hsd1

/-- A number that is picked. -/
theorem pick_any (g k : Nat) (n : Int) (w : World) (h : Src g k w) (hk : k ≤ 100000000000) (hn : I64 n) :
    Calls Tryz.prog 59 #[.pointer (some ⟨g, 0, none⟩), .int .i64 n] w fun e w' => ∃ x : Int, e = .returned (.int .i64 x) ∧ PickR n x ∧ Src g (k + 2) w' ∧ Only g (g + 1) w w' := by
  have HS := Lib.hid h
  unfold I64 at hn
  by_cases h1 : n ≤ 1
  · have hp : PickR n 0 := ⟨by omega, fun _ => rfl, fun h => by omega, by omega⟩
    have HP := Lib.hid hp
    clear h hp
    go_enter Tryz.func59, Tryz.ntmps59
    go_wp2
    go_ret
    exact ⟨0, rfl, HP.out, HS.out.more (by omega), Only.refl _ _ _⟩
  · have h1' : decide (n ≤ 1) = false := by simp; omega
    have hn0 : ¬ n = 0 := by omega
    by_cases h2 : 200 < n
    · go_enter Tryz.func59, Tryz.ntmps59
      go_wp2_with fail
      refine (next_any g k _ h (by omega)).mono ?_
      rintro e w1 ⟨x, rfl, hx, s1, o1⟩
      unfold Byt at hx
      go_wp2_with fail
      refine (next_any g (k + 1) _ s1 (by omega)).mono ?_
      rintro e w2 ⟨y, rfl, hy, s2, o2⟩
      unfold Byt at hy
      have HP := Lib.hid (pickR_mod (n := n) (y := x * 256 + y) (by omega) (by omega) (by omega))
      have HF := Lib.hid (o1.trans o2)
      clear o1 o2
      go_wp2
      go_ret
      exact ⟨_, rfl, HP.out, s2, HF.out⟩
    · have h2' : decide (200 < n) = false := by simp; omega
      go_enter Tryz.func59, Tryz.ntmps59
      go_wp2_with fail
      refine (next_any g k _ h (by omega)).mono ?_
      rintro e w1 ⟨x, rfl, hx, s1, o1⟩
      unfold Byt at hx
      have HP := Lib.hid (pickR_mod (n := n) (y := x) (by omega) (by omega) (by omega))
      go_wp2
      go_ret
      exact ⟨_, rfl, HP.out, s1.more (by omega), o1⟩
theorem one_any (g k : Nat) (n : Int) (w : World) (h : Src g k w) (hk : k ≤ 100000000000) (hn : I64 n) :
    Calls Tryz.prog 60 #[.pointer (some ⟨g, 0, none⟩), .int .i64 n] w fun e w' => ∃ x : Bool, e = .returned (.bool x) ∧ Src g (k + 2) w' ∧ Only g (g + 1) w w' := by
  go_enter Tryz.func60, Tryz.ntmps60
  go_wp2_with fail
  refine (pick_any g k n _ h hk hn).mono ?_
  rintro e w1 ⟨x, rfl, hx, s1, o1⟩
  go_wp2
  go_ret
  exact ⟨_, rfl, s1, o1⟩
/-- One of some numbers. -/
theorem among_any (g k b m : Nat) (t : TypeId) (xs : List Int) (w : World) (h : Src g k w) (hk : k ≤ 100000000000) (hb : Blk w b t (ints xs).toArray) (hm : xs.length = m) (h0 : 0 < m) (h1 : m ≤ 1000) (hne : g < b) :
    Calls Tryz.prog 99 #[.pointer (some ⟨g, 0, none⟩), .slice (some ⟨b, 0, none⟩) m m] w fun e w' => ∃ x : Int, e = .returned (.int .i64 x) ∧ x ∈ xs ∧ Src g (k + 2) w' ∧ Only g (g + 1) w w' := by
  have HB := Lib.hid hb
  clear hb
  have HM := Lib.hid hm
  clear hm
  go_enter Tryz.func99, Tryz.ntmps99
  go_wp2_with fail
  refine (pick_any g k m _ h hk ⟨by omega, by omega⟩).mono ?_
  rintro e w1 ⟨x, rfl, hx, s1, o1⟩
  have hlt := hx.lt (by omega)
  have hx0 := hx.1
  clear hx
  obtain ⟨j, rfl⟩ := Int.eq_ofNat_of_zero_le hx0
  have hj : j < m := by omega
  have hg : xs[j]? = some (xs[j]'(by have := HM.out; omega)) := List.getElem?_eq_getElem _
  have hc : w1.cell? ⟨b, j, none⟩ = some (.int .i64 (xs[j]'(by have := HM.out; omega))) := by
    have hb1 : Blk w1 b t (ints xs).toArray := (o1.block b HB.out.lt (by omega)).trans HB.out
    exact ints_cell hb1 hg
  have HG := Lib.hid (List.mem_of_getElem? hg)
  generalize xs[j]'(by have := HM.out; omega) = y at *
  clear hg
  go_wp2
  go_ret
  exact ⟨_, rfl, HG.out, s1, o1⟩
/-- One of some texts. -/
theorem text_any (g k b m : Nat) (t : TypeId) (xs : List ByteArray) (w : World) (h : Src g k w) (hk : k ≤ 100000000000) (hb : Blk w b t (strs xs).toArray) (hm : xs.length = m) (h0 : 0 < m) (h1 : m ≤ 1000) (hne : g < b) :
    Calls Tryz.prog 89 #[.pointer (some ⟨g, 0, none⟩), .slice (some ⟨b, 0, none⟩) m m] w fun e w' => ∃ x : ByteArray, e = .returned (.string x) ∧ x ∈ xs ∧ Src g (k + 2) w' ∧ Only g (g + 1) w w' := by
  have HB := Lib.hid hb
  clear hb
  have HM := Lib.hid hm
  clear hm
  go_enter Tryz.func89, Tryz.ntmps89
  go_wp2_with fail
  refine (pick_any g k m _ h hk ⟨by omega, by omega⟩).mono ?_
  rintro e w1 ⟨x, rfl, hx, s1, o1⟩
  have hlt := hx.lt (by omega)
  have hx0 := hx.1
  clear hx
  obtain ⟨j, rfl⟩ := Int.eq_ofNat_of_zero_le hx0
  have hj : j < m := by omega
  have hg : xs[j]? = some (xs[j]'(by have := HM.out; omega)) := List.getElem?_eq_getElem _
  have hc : w1.cell? ⟨b, j, none⟩ = some (.string (xs[j]'(by have := HM.out; omega))) := by
    have hb1 : Blk w1 b t (strs xs).toArray := (o1.block b HB.out.lt (by omega)).trans HB.out
    rw [hb1.cell]; simp [strs, hg]
  have HG := Lib.hid (List.mem_of_getElem? hg)
  generalize xs[j]'(by have := HM.out; omega) = y at *
  clear hg
  go_wp2
  go_ret
  exact ⟨_, rfl, HG.out, s1, o1⟩
end Go.Proofs.YtjmlcobbjpmjpaaGreatDoor
namespace Go.Proofs.YtjmlcobbjpmjpaaGreatDoor
open Go.RowKit

/-- One element appended: what stands, block by block. -/
theorem wp_oneF {P : Program} {o : Oper} {a : Act} {Q : Exit → Act → World → Prop} {K : Act → World → Prop} (s x : Operand) (t : TypeId)
    (ho : o.op = .call { callee := .builtin .append, args := #[s, x], argTypes := #[t, t] })
    (e : TypeId) (zv : Value) (size bytes : Nat) (ht : P.underlying t = some (.slice e)) (hinfo : (P.info? e).map (fun i => (i.zero, i.size, i.bytes)) = some (some zv, size, bytes)) (hzs : zv.cells.size = size) (hsz : 0 < size) (hb : bytes ≤ 1000)
    {lo hi : Nat} {wr : World} {A : Option Addr} {m c : Nat} {xs : List Value} (h : Sl wr lo hi e size A m c xs) (hlo : lo ≤ wr.heap.size) (hs : a.eval s = .slice A m c)
    (news : List Value) (hd : Nat) (hhd : hd = wr.heap.size) (hx : a.eval x = .slice (some ⟨hd, 0, none⟩) 1 1) (hl : news.length = size) (h1 : ∀ u ∈ news, u.oneCell' = true) (hm : m < 100000000)
    (HK : ∀ A' c' w1, Sl w1 lo w1.heap.size e size A' (m + 1) c' (xs ++ news) → Below lo wr w1 → wr.heap.size + 1 ≤ w1.heap.size → (∀ g, g < wr.heap.size → (∀ ad, A = some ad → ad.block ≠ g) → w1.heap[g]? = wr.heap[g]?) → (∀ g, g < wr.heap.size → (∀ ad, A = some ad → ad.block ≠ g) → ∀ ad, A' = some ad → ad.block ≠ g) → K (a.put o.dst (.slice A' (m + 1) c')) w1) : o.wp P a (wr.alloc (.cells news.toArray e)) K Q := by
  subst hhd
  obtain ⟨i, hi', hz, hsize, hby⟩ := info_parts hinfo
  have hAb : ∀ ad, A = some ad → lo ≤ ad.block := fun ad had => by
    rcases h.form with ⟨h0, _⟩ | ⟨g, cur, hg, h2, _⟩
    · rw [h0] at had; cases had
    · rw [hg] at had; injection had with had; subst had; exact h2
  have hown : (wr.alloc (.cells news.toArray e)).ownsRow lo e size (.slice A m c) m xs := h.1.alloc _
  obtain ⟨v', w', hr, h2, h3, h4, h5⟩ := run_append_own_at (P := P) (wr.alloc (.cells news.toArray e)) lo t o.type e i zv size bytes ht hi' hz hsize hby hzs hsz _ m xs hown ⟨wr.heap.size, 0, none⟩ 1 1 news (by omega) (news_at wr news e) h1 (by unfold maxLen; omega) (by
    calc (m + 1) * bytes ≤ 100000000 * 1000 := Nat.mul_le_mul (by omega) hb
      _ ≤ 140737488355328 := by decide) (by simp; omega)
  unfold Oper.wp execOp
  simp only [ho, resolve, invoke, builtin, Sem.run_bind, Sem.run_pure, Result.andThen_ok, List.map_toArray, List.map_cons, List.map_nil, hs, hx, hr]
  have hfr : ∀ g, g < wr.heap.size → (∀ ad, A = some ad → ad.block ≠ g) → w'.heap[g]? = wr.heap[g]? := fun k hk hne => by
    rw [h3.block k (by simp; omega) (fun ee => ?_), Below.heap_alloc wr _ k (by omega)]
    cases A with
    | none => simp [Value.ownBlock] at ee
    | some ad =>
      simp [Value.ownBlock] at ee
      exact hne ad rfl ee.symm
  have hsz2 : wr.heap.size + 1 ≤ w'.heap.size := by have := h3.size; simpa using this
  have hbel : Below lo wr w' := by
    refine ⟨h3.os, h3.tape, h3.output, by omega, fun k hk => hfr k (by omega) (fun ad had => by have := hAb ad had; omega)⟩
  rcases h2.2 with ⟨hv, hn⟩ | ⟨g, cap, cur, hv, hb', hgg, hrest'⟩
  · omega
  · subst hv
    refine HK _ _ _ ⟨h2, fun ad had => by injection had with had; subst had; exact (Array.getElem?_eq_some_iff.1 hgg).1⟩ hbel hsz2 hfr (fun g' hg' hne ad had => ?_)
    injection had with had
    subst had
    rcases h5 with h5 | h5
    · cases A with
      | none => simp [Value.ownBlock] at h5
      | some ad =>
        simp [Value.ownBlock] at h5
        have := hne ad rfl
        simp; omega
    · simp [Value.ownBlock] at h5
      simp; omega
theorem wpList_oneF {P : Program} {ops : Array Oper} {rest : List Oper} {o : Oper} {a : Act} {Q : Exit → Act → World → Prop} (hgd : o.guard = none) (s x : Operand) (t : TypeId)
    (ho : o.op = .call { callee := .builtin .append, args := #[s, x], argTypes := #[t, t] })
    (e : TypeId) (zv : Value) (size bytes : Nat) (ht : P.underlying t = some (.slice e)) (hinfo : (P.info? e).map (fun i => (i.zero, i.size, i.bytes)) = some (some zv, size, bytes)) (hzs : zv.cells.size = size) (hsz : 0 < size) (hb : bytes ≤ 1000)
    {lo hi : Nat} {wr : World} {A : Option Addr} {m c : Nat} {xs : List Value} (h : Sl wr lo hi e size A m c xs) (hlo : lo ≤ wr.heap.size) (hs : a.eval s = .slice A m c)
    (news : List Value) (hd : Nat) (hhd : hd = wr.heap.size) (hx : a.eval x = .slice (some ⟨hd, 0, none⟩) 1 1) (hl : news.length = size) (h1 : ∀ u ∈ news, u.oneCell' = true) (hm : m < 100000000)
    (HK : ∀ A' c' w1, Sl w1 lo w1.heap.size e size A' (m + 1) c' (xs ++ news) → Below lo wr w1 → wr.heap.size + 1 ≤ w1.heap.size → (∀ g, g < wr.heap.size → (∀ ad, A = some ad → ad.block ≠ g) → w1.heap[g]? = wr.heap[g]?) → (∀ g, g < wr.heap.size → (∀ ad, A = some ad → ad.block ≠ g) → ∀ ad, A' = some ad → ad.block ≠ g) → wpList P ops Q rest (a.put o.dst (.slice A' (m + 1) c')) w1) : wpList P ops Q (o :: rest) a (wr.alloc (.cells news.toArray e)) := by
  have hw : Region.wanted o (yielded ops a.tmps) = true := by simp [Region.wanted, hgd]
  unfold wpList
  rw [if_pos hw]
  refine Or.inl ?_
  exact wp_oneF s x t ho e zv size bytes ht hinfo hzs hsz hb h hlo hs news hd hhd hx hl h1 hm HK

end Go.Proofs.YtjmlcobbjpmjpaaGreatDoor
namespace Go.Proofs.YtjmlcobbjpmjpaaGreatDoor
open Go.RowKit

theorem Blk.only2 {lo hi g : Nat} {t : TypeId} {cs : Array Value} {w w' : World} (h : Blk w g t cs) (ho : Only lo hi w w') (hd : g < lo ∨ hi ≤ g) : Blk w' g t cs := (ho.block g h.lt hd).trans h
theorem Blk.cast2 {g : Nat} {t : TypeId} {cs cs' : Array Value} {w : World} (h : Blk w g t cs) (e : cs = cs') : Blk w g t cs' := e ▸ h
theorem cls_snoc2 (l : List Cl) (x : Cl) : cls l ++ cellsCl x = cls (l ++ [x]) := by simp [cls]
theorem cl_one2 (x : Cl) : ∀ u ∈ cellsCl x, u.oneCell' = true := by
  intro u hu
  simp only [cellsCl, List.mem_cons, List.not_mem_nil, or_false] at hu
  rcases hu with h | h | h | h | h <;> subst h <;> rfl
theorem good_cl {nm : ByteArray} {a b c d : Int} (hn : nm.size ≤ 1000) (ha : I64 a) (hb : I64 b) (hc : I64 c) (hd : I64 d) : (⟨nm, a, b, c, d⟩ : Cl).good ∧ (⟨nm, a, b, c, d⟩ : Cl).small := ⟨⟨by simp only; omega, ha, hb, hc, hd⟩, by unfold Cl.small; simp only; omega⟩
/-- What a draw of a client leaves. -/
def ClDrawn (nm : ByteArray) (g k : Nat) (w : World) (e : Ending) (w' : World) : Prop :=
  ∃ x : Cl, e = .returned (.agg #[.string x.name, .int .i64 x.station, .int .i64 x.from_, .int .i64 x.to_, .int .i64 x.quota]) ∧ (x.good ∧ (isName nm = true → okCl x = true)) ∧ x.small ∧ Src g (k + 8) w' ∧ Only g (g + 1) w w'
set_option maxHeartbeats 4000000 in
set_option maxRecDepth 100000 in
theorem l24New_any (g k : Nat) (nm : ByteArray) (w : World) (h : Src g k w) (hk : k ≤ 10000000000) (hnm : nm.size ≤ 1000) :
    Calls Tryz.prog 88 #[.pointer (some ⟨g, 0, none⟩), .string nm] w fun e w' => ClDrawn nm g k w e w' := by
  have hgw := h.lt
  have y4 := Blk.new w 48 #[.string ⟨#[]⟩, .int .i64 0, .int .i64 0, .int .i64 0, .int .i64 0]
  go_enter Tryz.func88, Tryz.ntmps88
  go_wp2_with fail
  refine (pick_any g k 4 _ (h.alloc _) (by omega) ⟨by omega, by omega⟩).mono ?_
  rintro e w1 ⟨x1, rfl, hx1, s1, o1⟩
  have hx1a := hx1.lt (by omega)
  have hx1b := hx1.1
  have z1 := o1.size
  simp at z1
  clear hx1 h
  replace y4 := y4.only2 o1 (Or.inr (by omega))
  have HO1 := Lib.hid (((Only.refl g (g + 1) w).alloc _).trans o1)
  clear o1
  go_wp2_with fail
  refine (pick_any g _ 60 _ s1 (by omega) ⟨by omega, by omega⟩).mono ?_
  rintro e w2 ⟨x2, rfl, hx2, s2, o2⟩
  have hx2a := hx2.lt (by omega)
  have hx2b := hx2.1
  have z2 := o2.size
  clear hx2 s1
  replace y4 := y4.only2 o2 (Or.inr (by omega))
  have HO2 := Lib.hid (HO1.out.trans o2)
  clear o2
  have y5 := Blk.new w2 48 #[.string nm, .int .i64 x1, .int .i64 x2, .int .i64 0, .int .i64 0]
  have s2a := s2.alloc (.cells #[.string nm, .int .i64 x1, .int .i64 x2, .int .i64 0, .int .i64 0] 48)
  replace y4 := y4.alloc (.cells #[.string nm, .int .i64 x1, .int .i64 x2, .int .i64 0, .int .i64 0] 48)
  have HO3 := Lib.hid (HO2.out.alloc (.cells #[.string nm, .int .i64 x1, .int .i64 x2, .int .i64 0, .int .i64 0] 48))
  have s2d : Src g (k + 2 + 2) (w2.alloc (.cells #[.string nm, .int .i64 x1, .int .i64 x2, .int .i64 0, .int .i64 0] 48)).drew := s2a.keep fun _ _ => rfl
  clear s2 s2a
  have hwa : IntKind.i64.wrap (x2 + 1) = x2 + 1 := by rw [IntKind.wrap_i64]; omega
  go_wp2_with fail

  refine wp_region_held_drew (S := (fun W => W.cell? ⟨w2.heap.size, 2, none⟩ = some (.int .i64 x2))) (by kernel_rfl) ?_ (fun hHeld => ?_)
  · exact y5.cellAt 2 (by simp)
  refine wpAnyH_take (i := 0) (v := ?_) rfl (by kernel_rfl) (by kernel_rfl) (by kernel_rfl) (fun _ _ _ h => h) (Or.inl ⟨by kernel_rfl, ?_⟩) (by assumption) ?_
  rotate_left 1
  · intro w hSw; (try dsimp only at hSw); go_simp; try with_reducible rfl
  try simp only [Act.put, List.getElem_toArray, List.getElem_cons_succ, List.getElem_cons_zero, List.setIfInBounds_toArray, List.set_cons_zero, List.set_cons_succ]
  refine wpAnyH_take (i := 1) (v := ?_) rfl (by kernel_rfl) (by kernel_rfl) (by kernel_rfl) (fun _ _ _ h => h) (Or.inl ⟨by kernel_rfl, ?_⟩) (by assumption) ?_
  rotate_left 1
  · intro w hSw; (try dsimp only at hSw);  go_simp; try with_reducible rfl
  try simp only [Act.put, List.getElem_toArray, List.getElem_cons_succ, List.getElem_cons_zero, List.setIfInBounds_toArray, List.set_cons_zero, List.set_cons_succ]
  refine wpAnyH_take (i := 2) (v := ?_) rfl (by kernel_rfl) (by kernel_rfl) (by kernel_rfl) (fun _ _ _ h => h) (Or.inl ⟨by kernel_rfl, ?_⟩) (by assumption) ?_
  rotate_left 1
  · intro w hSw; (try dsimp only at hSw); go_simp; try with_reducible rfl
  try simp only [Act.put, List.getElem_toArray, List.getElem_cons_succ, List.getElem_cons_zero, List.setIfInBounds_toArray, List.set_cons_zero, List.set_cons_succ]
  refine wpAnyH_take (i := 3) (v := ?_) rfl (by kernel_rfl) (by kernel_rfl) (by kernel_rfl) (fun _ _ _ h => h) (Or.inl ⟨by kernel_rfl, ?_⟩) (by assumption) ?_
  rotate_left 1
  · intro w hSw; (try dsimp only at hSw); go_simp; try with_reducible rfl
  try simp only [Act.put, List.getElem_toArray, List.getElem_cons_succ, List.getElem_cons_zero, List.setIfInBounds_toArray, List.set_cons_zero, List.set_cons_succ]
  refine wpAnyH_ready (rs := [4]) (by kernel_rfl) (by simp) ?_
  refine AllReadyH.cons rfl (fun K hK => ?_) AllReadyH.nil
  go_simp
  go_at_call 59
  refine (pick_any g _ 60 _ s2d (by omega) ⟨by omega, by omega⟩).mono ?_
  rintro e w3 ⟨x3, rfl, hx3, s3, o3⟩
  have hx3a := hx3.lt (by omega)
  have hx3b := hx3.1
  clear hx3
  have z3 := o3.size
  simp at z3
  have y53 : Blk w3 w2.heap.size 48 #[.string nm, .int .i64 x1, .int .i64 x2, .int .i64 0, .int .i64 0] := (o3.block _ (by simp) (by omega)).trans y5
  have y43 : Blk w3 w.heap.size 48 #[.string ⟨#[]⟩, .int .i64 0, .int .i64 0, .int .i64 0, .int .i64 0] := (o3.block _ (by simp; omega) (by omega)).trans y4
  have HO4 := Lib.hid (show Only g (g + 1) w w3 from HO3.out.trans ⟨o3.os, o3.tape, o3.output, o3.size, o3.block⟩)
  clear o3 y4 y5 s2d
  have hwb : IntKind.i64.wrap (x2 + 1 + x3) = x2 + 1 + x3 := by rw [IntKind.wrap_i64]; omega
  go_wp2_with fail
  refine hK.out _ _ ?_ (fun hNew => ?_)
  · exact y53.cellAt 2 (by simp)
  clear hK K hHeld
  have hHeld := hNew
  clear hNew
  try simp only [Act.put, List.getElem_toArray, List.getElem_cons_succ, List.getElem_cons_zero, List.setIfInBounds_toArray, List.set_cons_zero, List.set_cons_succ]
  refine wpAnyH_take (i := 5) (v := ?_) rfl (by kernel_rfl) (by kernel_rfl) (by kernel_rfl) (fun _ _ _ h => h) (Or.inl ⟨by kernel_rfl, ?_⟩) (by assumption) ?_
  rotate_left 1
  · intro w hSw; (try dsimp only at hSw); go_simp; try with_reducible rfl
  try simp only [Act.put, List.getElem_toArray, List.getElem_cons_succ, List.getElem_cons_zero, List.setIfInBounds_toArray, List.set_cons_zero, List.set_cons_succ]
  refine wpAnyH_take (i := 6) (v := ?_) rfl (by kernel_rfl) (by kernel_rfl) (by kernel_rfl) (fun _ _ _ h => h) (Or.inl ⟨by kernel_rfl, ?_⟩) (by assumption) ?_
  rotate_left 1
  · intro w hSw; (try dsimp only at hSw); go_simp; try with_reducible rfl
  try simp only [Act.put, List.getElem_toArray, List.getElem_cons_succ, List.getElem_cons_zero, List.setIfInBounds_toArray, List.set_cons_zero, List.set_cons_succ]
  refine wpAnyH_ready (rs := [7]) (by kernel_rfl) (by simp) ?_
  refine AllReadyH.cons rfl (fun K hK => ?_) AllReadyH.nil
  have c93 := y53.cellAt 3 (by simp)
  have f93 := y53.frozen 3
  simp only [List.getElem_toArray, List.getElem_cons_zero, List.getElem_cons_succ] at c93
  go_simp
  clear c93 f93
  refine hK.out _ _ ?_ (fun hNew => ?_)
  · have := (y53.set_ 3 (.int .i64 (x2 + 1 + x3))).cellAt 2 (by simp); simpa using this
  clear hK K hHeld
  have hHeld := hNew
  clear hNew
  try simp only [Act.put, List.getElem_toArray, List.getElem_cons_succ, List.getElem_cons_zero, List.setIfInBounds_toArray, List.set_cons_zero, List.set_cons_succ]
  refine wpAnyH_done (by kernel_rfl) ?_ _
  obtain ⟨w4, hw4⟩ : ∃ y, w3.setCell ⟨w2.heap.size, 3, none⟩ (.int .i64 (x2 + 1 + x3)) = y := ⟨_, rfl⟩
  rw [hw4]
  have y54 : Blk w4 w2.heap.size 48 #[.string nm, .int .i64 x1, .int .i64 x2, .int .i64 (x2 + 1 + x3), .int .i64 0] := by rw [← hw4]; exact (y53.set_ 3 (.int .i64 (x2 + 1 + x3))).cast2 rfl
  have y44 : Blk w4 w.heap.size 48 #[.string ⟨#[]⟩, .int .i64 0, .int .i64 0, .int .i64 0, .int .i64 0] := by rw [← hw4]; exact y43.far (by simp; omega) _
  have HO5 := Lib.hid (show Only g (g + 1) w w4 by rw [← hw4]; exact HO4.out.far (by simp; omega) _)
  have s4 : Src g (k + 6) w4 := by rw [← hw4]; exact (s3.set_ (by simp; omega) _).more (by omega)
  have z4 : w4.heap.size = w3.heap.size := by rw [← hw4]; simp [World.setCell]
  clear hHeld hw4 y53 y43 s3
  go_wp2_with fail
  refine (pick_any g _ 30 _ s4 (by omega) ⟨by omega, by omega⟩).mono ?_
  rintro e w5 ⟨x5, rfl, hx5, s5, o5⟩
  have hx5a := hx5.lt (by omega)
  have hx5b := hx5.1
  have z5 := o5.size
  clear hx5 s4
  replace y54 := y54.only2 o5 (Or.inr (by omega))
  replace y44 := y44.only2 o5 (Or.inr (by omega))
  have HO6 := Lib.hid (HO5.out.trans o5)
  clear o5
  have c5 := y54.cellAt 4 (by simp)
  have f5 := y54.frozen 4
  simp only [List.getElem_toArray, List.getElem_cons_zero, List.getElem_cons_succ] at c5
  obtain ⟨w6, hw6⟩ : ∃ y, w5.setCell ⟨w2.heap.size, 4, none⟩ (.int .i64 x5) = y := ⟨_, rfl⟩
  have y46 : Blk w6 w.heap.size 48 #[.string ⟨#[]⟩, .int .i64 0, .int .i64 0, .int .i64 0, .int .i64 0] := by rw [← hw6]; exact y44.far (by simp; omega) _
  have y56 : Blk w6 w2.heap.size 48 #[.string nm, .int .i64 x1, .int .i64 x2, .int .i64 (x2 + 1 + x3), .int .i64 x5] := by rw [← hw6]; exact (y54.set_ 4 (.int .i64 x5)).cast2 rfl
  have HO7 := Lib.hid (show Only g (g + 1) w w6 by rw [← hw6]; exact HO6.out.far (by simp; omega) _)
  have HS7 := Lib.hid (show Src g (k + 8) w6 by rw [← hw6]; exact (s5.set_ (by simp; omega) _).more (by omega))
  clear y44 y54 s5
  have d0 := y46.cellAt 0 (by simp)
  have d1 := y46.cellAt 1 (by simp)
  have d2 := y46.cellAt 2 (by simp)
  have d3 := y46.cellAt 3 (by simp)
  have d4 := y46.cellAt 4 (by simp)
  have e0 := y56.cellAt 0 (by simp)
  have e1 := y56.cellAt 1 (by simp)
  have e2 := y56.cellAt 2 (by simp)
  have e3 := y56.cellAt 3 (by simp)
  have e4 := y56.cellAt 4 (by simp)
  have f0 := y46.frozen 0
  have f1 := y46.frozen 1
  have f2 := y46.frozen 2
  have f3 := y46.frozen 3
  have f4 := y46.frozen 4
  simp only [List.getElem_toArray, List.getElem_cons_zero, List.getElem_cons_succ] at d0 d1 d2 d3 d4 e0 e1 e2 e3 e4
  go_wp2
  exact bodyPost_ret (v := .agg #[.string nm, .int .i64 x1, .int .i64 x2, .int .i64 (x2 + 1 + x3), .int .i64 x5]) (by simp [results, Tryz.results88, go_sem, d0, d1, d2, d3, d4]) rfl ⟨⟨nm, x1, x2, x2 + 1 + x3, x5⟩, rfl, ⟨(good_cl (by omega) ⟨by omega, by omega⟩ ⟨by omega, by omega⟩ ⟨by omega, by omega⟩ ⟨by omega, by omega⟩).1, fun hnn => okCl_iff.2 ⟨hnn, ⟨by simp only; omega, by simp only; omega⟩, ⟨by simp only; omega, by simp only; omega⟩, ⟨by simp only; omega, by simp only; omega⟩, ⟨by simp only; omega, by simp only; omega⟩⟩⟩, good_cl (by omega) ⟨by omega, by omega⟩ ⟨by omega, by omega⟩ ⟨by omega, by omega⟩ ⟨by omega, by omega⟩ |>.2, ((((HS7.out.set_ (by simp; omega) _).set_ (by simp; omega) _).set_ (by simp; omega) _).set_ (by simp; omega) _).set_ (by simp; omega) _, ((((HO7.out.far (by simp) _).far (by simp) _).far (by simp) _).far (by simp) _).far (by simp) _⟩

end Go.Proofs.YtjmlcobbjpmjpaaGreatDoor
namespace Go.Proofs.YtjmlcobbjpmjpaaGreatDoor
open Go.RowKit

theorem info_clD : (Tryz.prog.info? 48).map (fun i => (i.zero, i.size, i.bytes)) = some (some (.agg #[.string ⟨#[]⟩, .int .i64 0, .int .i64 0, .int .i64 0, .int .i64 0]), 5, 48) := by kernel_rfl
def GoodC (l : List Cl) : Prop := ∀ x ∈ l, x.good ∧ x.small
theorem cls_set : ∀ (l : List Cl) (j : Nat), j < l.length → GoodC l → ∀ (q : Nat) (z : Value), ((q = 0 ∧ ∃ s : ByteArray, s.size ≤ 1000 ∧ z = .string s) ∨ (1 ≤ q ∧ q ≤ 4 ∧ ∃ x : Int, I64 x ∧ z = .int .i64 x)) → ∃ l' : List Cl, l'.length = l.length ∧ GoodC l' ∧ (cls l).set (j * 5 + q) z = cls l'
  | [], j, h, _, _, _, _ => by simp at h
  | a :: l, 0, h, hg, q, z, hz => by
    have ha := hg a (by simp)
    have hl : GoodC l := fun x hx => hg x (by simp [hx])
    have cons : ∀ b : Cl, b.good ∧ b.small → GoodC (b :: l) := fun b hb x hx => by
      rcases List.mem_cons.1 hx with e | e
      · subst e; exact hb
      · exact hl x e
    obtain ⟨⟨g0, g1, g2, g3, g4⟩, gs⟩ := ha
    rcases hz with ⟨rfl, s, hs, rfl⟩ | ⟨h1, h2, x, hx, rfl⟩
    · exact ⟨⟨s, a.station, a.from_, a.to_, a.quota⟩ :: l, rfl, cons _ ⟨⟨by simp only; omega, g1, g2, g3, g4⟩, by unfold Cl.small; simp only; omega⟩, rfl⟩
    · obtain rfl | rfl | rfl | rfl : q = 1 ∨ q = 2 ∨ q = 3 ∨ q = 4 := by omega
      · exact ⟨⟨a.name, x, a.from_, a.to_, a.quota⟩ :: l, rfl, cons _ ⟨⟨g0, hx, g2, g3, g4⟩, gs⟩, rfl⟩
      · exact ⟨⟨a.name, a.station, x, a.to_, a.quota⟩ :: l, rfl, cons _ ⟨⟨g0, g1, hx, g3, g4⟩, gs⟩, rfl⟩
      · exact ⟨⟨a.name, a.station, a.from_, x, a.quota⟩ :: l, rfl, cons _ ⟨⟨g0, g1, g2, hx, g4⟩, gs⟩, rfl⟩
      · exact ⟨⟨a.name, a.station, a.from_, a.to_, x⟩ :: l, rfl, cons _ ⟨⟨g0, g1, g2, g3, hx⟩, gs⟩, rfl⟩
  | a :: l, j + 1, h, hg, q, z, hz => by
    have ha := hg a (by simp)
    have hl : GoodC l := fun x hx => hg x (by simp [hx])
    obtain ⟨l', e1, e2, e3⟩ := cls_set l j (by simpa using h) hl q z hz
    refine ⟨a :: l', by simp [e1], fun x hx => ?_, ?_⟩
    · rcases List.mem_cons.1 hx with e | e
      · subst e; exact ha
      · exact e2 x e
    · rw [show (j + 1) * 5 + q = j * 5 + q + 1 + 1 + 1 + 1 + 1 by omega]
      show Value.string a.name :: .int .i64 a.station :: .int .i64 a.from_ :: .int .i64 a.to_ :: .int .i64 a.quota :: (cls l).set (j * 5 + q) z = _
      rw [e3]; rfl
theorem goodC_snoc {l : List Cl} {x : Cl} (h : GoodC l) (hx : x.good ∧ x.small) : GoodC (l ++ [x]) := fun y hy => by
  rcases List.mem_append.1 hy with hy | hy
  · exact h y hy
  · rw [List.mem_singleton] at hy; subst hy; exact hx
theorem Sl.nn {w : World} {lo hi size n c : Nat} {t : TypeId} {A : Option Addr} {xs : List Value} (h : Sl w lo hi t size A n c xs) (hn : 0 < n) : A ≠ none := by
  obtain ⟨g, rfl, _⟩ := h.lt hn
  simp
/-- What a draw of clients leaves. -/
def ClsDrawn (g k q : Nat) (w : World) (e : Ending) (w' : World) : Prop :=
  ∃ (l : List Cl) (A : Option Addr) (d : Nat), e = .returned (.slice A l.length d) ∧ (l.length ≤ 31 ∧ A ≠ none) ∧ GoodC l ∧ Sl w' w.heap.size w'.heap.size 48 5 A l.length d (cls l) ∧ Src g (k + q) w' ∧ Only g (g + 1) w w'

set_option maxHeartbeats 4000000 in
set_option maxRecDepth 100000 in
theorem l24Draw_any (g k : Nat) (w : World) (h : Src g k w) (hk : k ≤ 1000000000) :
    Calls Tryz.prog 113 #[.pointer (some ⟨g, 0, none⟩)] w fun e w' => ClsDrawn g k 100 w e w' := by
  have hgw := h.lt
  have yn := Blk.new w 9 #[.string ⟨#[98, 97, 110, 107]⟩, .string ⟨#[99, 108, 105, 110, 105, 99]⟩, .string ⟨#[100, 97, 105, 114, 121]⟩, .string ⟨#[108, 97, 98, 45, 50]⟩, .string ⟨#[112, 111, 115, 116]⟩, .string ⟨#[119, 97, 114, 100]⟩]
  have sl0 := Sl.made (w.alloc (.cells #[.string ⟨#[98, 97, 110, 107]⟩, .string ⟨#[99, 108, 105, 110, 105, 99]⟩, .string ⟨#[100, 97, 105, 114, 121]⟩, .string ⟨#[108, 97, 98, 45, 50]⟩, .string ⟨#[112, 111, 115, 116]⟩, .string ⟨#[119, 97, 114, 100]⟩] 9)) 48 5
  rw [show (w.alloc (.cells #[.string ⟨#[98, 97, 110, 107]⟩, .string ⟨#[99, 108, 105, 110, 105, 99]⟩, .string ⟨#[100, 97, 105, 114, 121]⟩, .string ⟨#[108, 97, 98, 45, 50]⟩, .string ⟨#[112, 111, 115, 116]⟩, .string ⟨#[119, 97, 114, 100]⟩] 9)).heap.size = w.heap.size + 1 by simp] at sl0
  have HSL0 := Lib.hid sl0
  clear sl0
  go_enter Tryz.func113, Tryz.ntmps113
  go_wp2_with fail
  refine (pick_any g k 7 _ ((h.alloc _).alloc _) (by omega) ⟨by omega, by omega⟩).mono ?_
  rintro e w1 ⟨x1, rfl, hx1, s1, o1⟩
  have hx1a := hx1.lt (by omega)
  have hx1b := hx1.1
  clear hx1 h
  have z1 := o1.size
  simp at z1
  have HO1 := Lib.hid (show Only g (g + 1) w w1 from ((((Only.refl g (g + 1) w).alloc _).alloc _).trans o1))
  have HSL1 := Lib.hid ((HSL0.out.apart o1 (Or.inr (by omega))).wide (lo' := w.heap.size + 1) (by omega) (hi' := w1.heap.size) (by omega))
  have yn1 := (yn.alloc _).only2 o1 (Or.inr (by omega))
  clear o1 yn HSL0
  obtain ⟨N, rfl⟩ := Int.eq_ofNat_of_zero_le hx1b
  go_wp2
  go_loopw [4, 5] (fun o i wr => ∃ (l : List Cl) (A : Option Addr) (d r : Nat), (r + l.length = N ∧ A ≠ none) ∧ i = .int .i64 (r : Int) ∧ o = .slice A l.length d ∧ GoodC l ∧ Sl wr (w.heap.size + 1) wr.heap.size 48 5 A l.length d (cls l) ∧ Src g (k + 2 + 8 * l.length) wr ∧ Only g (g + 1) w wr ∧ Blk wr w.heap.size 9 #[.string ⟨#[98, 97, 110, 107]⟩, .string ⟨#[99, 108, 105, 110, 105, 99]⟩, .string ⟨#[100, 97, 105, 114, 121]⟩, .string ⟨#[108, 97, 98, 45, 50]⟩, .string ⟨#[112, 111, 115, 116]⟩, .string ⟨#[119, 97, 114, 100]⟩] ∧ w.heap.size + 1 ≤ wr.heap.size) (fun _ i _ => (intOf i).toNat)
  case atStart => exact ⟨[], _, _, N, ⟨by simp, by simp⟩, rfl, rfl, fun x hx => by simp at hx, HSL1.out, s1.more (by simp), HO1.out, yn1, by omega⟩
  case round =>
    obtain ⟨l, A, d, r, hr, rfl, rfl, hgd, hsl, hs, ho, hyn, hzr⟩ := hrel
    have HSL := Lib.hid hsl
    have HS := Lib.hid hs
    have HO := Lib.hid ho
    have HR := Lib.hid hr
    have HG := Lib.hid hgd
    have HY := Lib.hid hyn
    have hll : l.length ≤ 6 := by omega
    clear hsl hs ho hr hgd HSL1 HO1 s1 yn1 hyn
    rcases Nat.eq_zero_or_pos r with h0 | h0
    · obtain rfl := h0
      go_wp2
      go_ret
      exact ⟨l, A, d, rfl, ⟨by omega, HR.out.2⟩, HG.out, HSL.out.wide (by omega) (Nat.le_refl _), HS.out.more (by omega), HO.out⟩
    · obtain ⟨q, rfl⟩ : ∃ q, r = q + 1 := ⟨r - 1, by omega⟩
      clear h0
      have hq1 : q ≤ 6 := by have := HR.out; omega
      have hl5 : l.length ≤ 5 := by have := HR.out; omega
      have hlI : (l.length : Int) < 6 := by omega
      obtain ⟨nm, hnm, hns⟩ : ∃ nm : ByteArray, wr.cell? ⟨w.heap.size, l.length, none⟩ = some (.string nm) ∧ nm.size ≤ 12 := by
        have hc := HY.out.cell l.length
        generalize l.length = L at *
        obtain rfl | rfl | rfl | rfl | rfl | rfl : L = 0 ∨ L = 1 ∨ L = 2 ∨ L = 3 ∨ L = 4 ∨ L = 5 := by omega
        all_goals exact ⟨_, hc.trans rfl, by decide⟩
      go_wp2_with fail
      refine (l24New_any g _ nm _ HS.out (by omega) (by omega)).mono ?_
      rintro e w5 ⟨x, rfl, hgx, hsx, s5, o5⟩
      have z5 := o5.size
      have HO5 := Lib.hid (HO.out.trans o5)
      have HSL5 := Lib.hid ((HSL.out.apart o5 (Or.inr (by omega))).wide (Nat.le_refl _) (hi' := w5.heap.size) (by omega))
      have HY5 := Lib.hid (HY.out.only2 o5 (Or.inr (by omega)))
      clear o5 hnm
      go_wp2_with (at_builtin; refine wpList_oneF rfl _ _ 46 rfl 48 _ 5 48 Tryz.underlying46 info_clD rfl (by decide) (by decide) HSL5.out (by omega) rfl (cellsCl x) _ rfl rfl rfl (cl_one2 _) (by omega) ?_; intro A10 d10 w10 sl10 b10 z10 f10 g10; have HSL10 := Lib.hid sl10; have HB10 := Lib.hid b10; clear sl10 b10 f10 g10)
      go_roundw
      case rel => exact ⟨l ++ [x], A10, d10, q, ⟨by have := HR.out.1; simp; omega, HSL10.out.nn (by omega)⟩, by go_num, by simp, goodC_snoc HG.out ⟨hgx.1, hsx⟩, by have := HSL10.out; rw [cls_snoc2] at this; simpa using this, (s5.below HB10.out (by omega)).more (by simp; omega), HO5.out.then HB10.out (by omega), HY5.out.below HB10.out (by omega), by omega⟩
      case measure => simp [intOf]


/-- What spoiling leaves: at most one cell of the client turned. -/
def SpoiltC (g k b o : Nat) (w : World) (w' : World) : Prop :=
  ∃ w1, Src g (k + 4) w1 ∧ Only g (g + 1) w w1 ∧ (w' = w1 ∨ ∃ (q : Nat) (z : Value), ((q = 0 ∧ ∃ s : ByteArray, s.size ≤ 1000 ∧ z = .string s) ∨ (1 ≤ q ∧ q ≤ 4 ∧ ∃ x : Int, I64 x ∧ z = .int .i64 x)) ∧ w' = w1.setCell ⟨b, o + q, none⟩ z)
theorem txt3_small {t : ByteArray} (h : t ∈ ([⟨#[]⟩, ⟨#[66, 97, 110, 107]⟩, ⟨#[122, 111, 111]⟩] : List ByteArray)) : t.size ≤ 1000 := by
  simp only [List.mem_cons, List.not_mem_nil, or_false] at h
  rcases h with h | h | h <;> subst h <;> decide
set_option maxHeartbeats 4000000 in
set_option maxRecDepth 100000 in
theorem l24Spoil_any (g k b o : Nat) (nm : ByteArray) (a fr tt qu : Int) (w : World) (h : Src g k w) (hk : k ≤ 10000000000) (hgb : g < b) (hb : b < w.heap.size) (hfr : I64 fr)
    (c0 : w.cell? ⟨b, o, none⟩ = some (.string nm)) (c1 : w.cell? ⟨b, o + 1, none⟩ = some (.int .i64 a)) (c2 : w.cell? ⟨b, o + 2, none⟩ = some (.int .i64 fr)) (c3 : w.cell? ⟨b, o + 3, none⟩ = some (.int .i64 tt)) (c4 : w.cell? ⟨b, o + 4, none⟩ = some (.int .i64 qu)) (f0 : w.frozen? ⟨b, o, none⟩ = false) (f1 : w.frozen? ⟨b, o + 1, none⟩ = false) (f2 : w.frozen? ⟨b, o + 2, none⟩ = false) (f3 : w.frozen? ⟨b, o + 3, none⟩ = false) (f4 : w.frozen? ⟨b, o + 4, none⟩ = false) :
    Calls Tryz.prog 90 #[.pointer (some ⟨g, 0, none⟩), .pointer (some ⟨b, o, none⟩)] w fun e w' => e = .returned (.tuple #[]) ∧ SpoiltC g k b o w w' := by
  have C0 := Lib.hid c0
  have F0 := Lib.hid f0
  have C1 := Lib.hid c1
  have F1 := Lib.hid f1
  have C2 := Lib.hid c2
  have F2 := Lib.hid f2
  have C3 := Lib.hid c3
  have F3 := Lib.hid f3
  have C4 := Lib.hid c4
  have F4 := Lib.hid f4
  clear c0 c1 c2 c3 c4 f0 f1 f2 f3 f4
  go_enter Tryz.func90, Tryz.ntmps90
  go_wp2_with fail
  refine (pick_any g k 5 _ h (by omega) ⟨by omega, by omega⟩).mono ?_
  rintro e w1 ⟨x1, rfl, hx1, s1, o1⟩
  have hx1a := hx1.lt (by omega)
  have hx1b := hx1.1
  clear hx1 h
  have z1 := o1.size
  have bq := o1.block b hb (by omega)
  have c10 := (World.cell?_of_block (a := ⟨b, o, none⟩) bq).trans C0.out
  have f10 := (World.frozen?_of_block (a := ⟨b, o, none⟩) bq).trans F0.out
  have c11 := (World.cell?_of_block (a := ⟨b, o + 1, none⟩) bq).trans C1.out
  have f11 := (World.frozen?_of_block (a := ⟨b, o + 1, none⟩) bq).trans F1.out
  have c12 := (World.cell?_of_block (a := ⟨b, o + 2, none⟩) bq).trans C2.out
  have f12 := (World.frozen?_of_block (a := ⟨b, o + 2, none⟩) bq).trans F2.out
  have c13 := (World.cell?_of_block (a := ⟨b, o + 3, none⟩) bq).trans C3.out
  have f13 := (World.frozen?_of_block (a := ⟨b, o + 3, none⟩) bq).trans F3.out
  have c14 := (World.cell?_of_block (a := ⟨b, o + 4, none⟩) bq).trans C4.out
  have f14 := (World.frozen?_of_block (a := ⟨b, o + 4, none⟩) bq).trans F4.out
  have HO1 := Lib.hid o1
  clear o1 bq
  by_cases h0 : x1 = 0
  · subst h0
    go_wp2_with fail
    refine (text_any g _ w1.heap.size 3 9 [⟨#[]⟩, ⟨#[66, 97, 110, 107]⟩, ⟨#[122, 111, 111]⟩] _ (s1.alloc _) (by omega) (Blk.new w1 _ _) rfl (by omega) (by omega) (by omega)).mono ?_
    rintro e w2 ⟨z, rfl, hz, s2, o2⟩
    have hzi := txt3_small hz
    clear hz
    have z2 := o2.size
    simp at z2
    have bk : (w1.alloc (.cells #[.string ⟨#[]⟩, .string ⟨#[66, 97, 110, 107]⟩, .string ⟨#[122, 111, 111]⟩] 9)).heap[b]? = w1.heap[b]? := Below.heap_alloc w1 _ b (by omega)
    have bk2 := o2.block b (by simp; omega) (by omega)
    have c2 := (World.cell?_of_block (a := ⟨b, o, none⟩) (bk2.trans bk)).trans c10
    have f2 := (World.frozen?_of_block (a := ⟨b, o, none⟩) (bk2.trans bk)).trans f10
    have HO := Lib.hid ((HO1.out.alloc (.cells #[.string ⟨#[]⟩, .string ⟨#[66, 97, 110, 107]⟩, .string ⟨#[122, 111, 111]⟩] 9)).trans o2)
    clear bk bk2 o2
    go_wp2
    go_end0
    exact ⟨rfl, w2, s2.more (by omega), HO.out, .inr ⟨0, .string z, .inl ⟨rfl, z, hzi, rfl⟩, rfl⟩⟩
  by_cases h1 : x1 = 1
  · subst h1
    go_wp2_with fail
    refine (among_any g _ w1.heap.size 4 2 [-1, 0, 9, 10] _ (s1.alloc _) (by omega) (Blk.new w1 _ _) rfl (by omega) (by omega) (by omega)).mono ?_
    rintro e w2 ⟨z, rfl, hz, s2, o2⟩
    have hzi := show I64 z by simp only [List.mem_cons, List.not_mem_nil, or_false] at hz; unfold I64 at *; omega
    clear hz
    have z2 := o2.size
    simp at z2
    have bk : (w1.alloc (.cells #[.int .i64 (-1), .int .i64 (0), .int .i64 (9), .int .i64 (10)] 2)).heap[b]? = w1.heap[b]? := Below.heap_alloc w1 _ b (by omega)
    have bk2 := o2.block b (by simp; omega) (by omega)
    have c2 := (World.cell?_of_block (a := ⟨b, o + 1, none⟩) (bk2.trans bk)).trans c11
    have f2 := (World.frozen?_of_block (a := ⟨b, o + 1, none⟩) (bk2.trans bk)).trans f11
    have HO := Lib.hid ((HO1.out.alloc (.cells #[.int .i64 (-1), .int .i64 (0), .int .i64 (9), .int .i64 (10)] 2)).trans o2)
    clear bk bk2 o2
    go_wp2
    go_end0
    exact ⟨rfl, w2, s2.more (by omega), HO.out, .inr ⟨1, .int .i64 z, .inr ⟨by omega, by omega, z, hzi, rfl⟩, rfl⟩⟩
  by_cases h2 : x1 = 2
  · subst h2
    go_wp2_with fail
    refine (among_any g _ w1.heap.size 5 2 [-1, 0, 20000, 20001, -9223372036854775808] _ (s1.alloc _) (by omega) (Blk.new w1 _ _) rfl (by omega) (by omega) (by omega)).mono ?_
    rintro e w2 ⟨z, rfl, hz, s2, o2⟩
    have hzi := show I64 z by simp only [List.mem_cons, List.not_mem_nil, or_false] at hz; unfold I64 at *; omega
    clear hz
    have z2 := o2.size
    simp at z2
    have bk : (w1.alloc (.cells #[.int .i64 (-1), .int .i64 (0), .int .i64 (20000), .int .i64 (20001), .int .i64 (-9223372036854775808)] 2)).heap[b]? = w1.heap[b]? := Below.heap_alloc w1 _ b (by omega)
    have bk2 := o2.block b (by simp; omega) (by omega)
    have c2 := (World.cell?_of_block (a := ⟨b, o + 2, none⟩) (bk2.trans bk)).trans c12
    have f2 := (World.frozen?_of_block (a := ⟨b, o + 2, none⟩) (bk2.trans bk)).trans f12
    have HO := Lib.hid ((HO1.out.alloc (.cells #[.int .i64 (-1), .int .i64 (0), .int .i64 (20000), .int .i64 (20001), .int .i64 (-9223372036854775808)] 2)).trans o2)
    clear bk bk2 o2
    go_wp2
    go_end0
    exact ⟨rfl, w2, s2.more (by omega), HO.out, .inr ⟨2, .int .i64 z, .inr ⟨by omega, by omega, z, hzi, rfl⟩, rfl⟩⟩
  by_cases h3 : x1 = 3
  · subst h3
    go_wp2_with fail
    refine (among_any g _ w1.heap.size 4 2 [-1, fr, 20000, 20001] _ (s1.alloc _) (by omega) (Blk.new w1 _ _) rfl (by omega) (by omega) (by omega)).mono ?_
    rintro e w2 ⟨z, rfl, hz, s2, o2⟩
    have hzi := show I64 z by simp only [List.mem_cons, List.not_mem_nil, or_false] at hz; unfold I64 at *; omega
    clear hz
    have z2 := o2.size
    simp at z2
    have bk : (w1.alloc (.cells #[.int .i64 (-1), .int .i64 (fr), .int .i64 (20000), .int .i64 (20001)] 2)).heap[b]? = w1.heap[b]? := Below.heap_alloc w1 _ b (by omega)
    have bk2 := o2.block b (by simp; omega) (by omega)
    have c2 := (World.cell?_of_block (a := ⟨b, o + 3, none⟩) (bk2.trans bk)).trans c13
    have f2 := (World.frozen?_of_block (a := ⟨b, o + 3, none⟩) (bk2.trans bk)).trans f13
    have HO := Lib.hid ((HO1.out.alloc (.cells #[.int .i64 (-1), .int .i64 (fr), .int .i64 (20000), .int .i64 (20001)] 2)).trans o2)
    clear bk bk2 o2
    go_wp2
    go_end0
    exact ⟨rfl, w2, s2.more (by omega), HO.out, .inr ⟨3, .int .i64 z, .inr ⟨by omega, by omega, z, hzi, rfl⟩, rfl⟩⟩
  by_cases h4 : x1 = 4
  · subst h4
    go_wp2_with fail
    refine (among_any g _ w1.heap.size 4 2 [-1, 0, 1000, 1001] _ (s1.alloc _) (by omega) (Blk.new w1 _ _) rfl (by omega) (by omega) (by omega)).mono ?_
    rintro e w2 ⟨z, rfl, hz, s2, o2⟩
    have hzi := show I64 z by simp only [List.mem_cons, List.not_mem_nil, or_false] at hz; unfold I64 at *; omega
    clear hz
    have z2 := o2.size
    simp at z2
    have bk : (w1.alloc (.cells #[.int .i64 (-1), .int .i64 (0), .int .i64 (1000), .int .i64 (1001)] 2)).heap[b]? = w1.heap[b]? := Below.heap_alloc w1 _ b (by omega)
    have bk2 := o2.block b (by simp; omega) (by omega)
    have c2 := (World.cell?_of_block (a := ⟨b, o + 4, none⟩) (bk2.trans bk)).trans c14
    have f2 := (World.frozen?_of_block (a := ⟨b, o + 4, none⟩) (bk2.trans bk)).trans f14
    have HO := Lib.hid ((HO1.out.alloc (.cells #[.int .i64 (-1), .int .i64 (0), .int .i64 (1000), .int .i64 (1001)] 2)).trans o2)
    clear bk bk2 o2
    go_wp2
    go_end0
    exact ⟨rfl, w2, s2.more (by omega), HO.out, .inr ⟨4, .int .i64 z, .inr ⟨by omega, by omega, z, hzi, rfl⟩, rfl⟩⟩
  · exfalso; omega
end Go.Proofs.YtjmlcobbjpmjpaaGreatDoor
namespace Go.Proofs.YtjmlcobbjpmjpaaGreatDoor
open Go.RowKit Go.ChangeShapes Go.WideShapes Go.Deep

structure Bk where
  day : Int
  client : ByteArray
  amount : Int

def Bk.good (x : Bk) : Prop := I64 x.day ∧ x.client.size ≤ 9223372036854775807 ∧ I64 x.amount
def Bk.small (x : Bk) : Prop := x.client.size ≤ 1048576
def cellsBk (x : Bk) : List Value := [.int .i64 x.day, .string x.client, .int .i64 x.amount]
def bkv (x : Bk) : Value := .agg #[.int .i64 x.day, .string x.client, .int .i64 x.amount]
def bks (l : List Bk) : List Value := l.flatMap cellsBk
theorem bks_length (l : List Bk) : (bks l).length = l.length * 3 := flat_length cellsBk 3 (fun _ => rfl) l
theorem bks_get {l : List Bk} {k : Nat} {x : Bk} (h : l[k]? = some x) : (bks l)[k * 3]? = some (.int .i64 x.day) ∧ (bks l)[k * 3 + 1]? = some (.string x.client) ∧ (bks l)[k * 3 + 2]? = some (.int .i64 x.amount) :=
  ⟨flat_get cellsBk 3 (fun _ => rfl) l k x h 0 (by omega), flat_get cellsBk 3 (fun _ => rfl) l k x h 1 (by omega), flat_get cellsBk 3 (fun _ => rfl) l k x h 2 (by omega)⟩
theorem bks_len {w : World} {B n : Nat} {A : Option Addr} {l : List Bk} (h : Reads w B 3 A n (bks l)) : l.length = n := by
  have := h.1
  rw [bks_length] at this
  omega
theorem bk_at {w : World} {B n k : Nat} {A : Option Addr} {l : List Bk} (h : Reads w B 3 A n (bks l)) (hk : k < n) :
    ∃ (x : Bk) (b off : Nat), l[k]? = some x ∧ A = some ⟨b, off, none⟩ ∧ b < B ∧ w.cell? ⟨b, off + k * 3, none⟩ = some (.int .i64 x.day) ∧ w.cell? ⟨b, off + k * 3 + 1, none⟩ = some (.string x.client) ∧ w.cell? ⟨b, off + k * 3 + 2, none⟩ = some (.int .i64 x.amount) := by
  obtain ⟨b, off, rfl, hb, hcell⟩ := h.at_ (by omega)
  have hl := bks_len h
  have he : l[k]? = some l[k] := List.getElem?_eq_getElem (by omega)
  obtain ⟨e0, e1, e2⟩ := bks_get he
  exact ⟨_, b, off, he, rfl, hb, hcell _ _ e0, hcell _ _ e1, hcell _ _ e2⟩

section
variable {H : Type} {enc : TypeId × Value → H} {w : World}
end

theorem make_bk (n : Nat) (hn : n ≤ 1048576) : ∀ w : World, (Instr.makeSlice 24 (.int .i64 (n : Int)) (.int .i64 (n : Int))).run Tryz.prog w = .ok (.slice (some ⟨w.heap.size, 0, none⟩) n n) (w.alloc (.cells (madeCells #[.int .i64 0, .string ⟨#[]⟩, .int .i64 0] (n * 3)) 26)) :=
  run_make_small 24 26 (.agg #[.int .i64 0, .string ⟨#[]⟩, .int .i64 0]) 3 32 Tryz.underlying24 (by kernel_rfl) (by decide) n hn
/-- What the marks from k0 on make of element i. -/
def bkMark (k0 i : Nat) : List Value := [.int .i64 ((k0 : Int) + 3 * (i : Int)), .string (mkText (k0 + 3 * i + 1)), .int .i64 ((k0 : Int) + 3 * (i : Int) + 1 + 1)]
def bkMarks (k0 n : Nat) : List Value := (List.range n).flatMap (bkMark k0)
theorem bkMarks_length (k0 n : Nat) : (bkMarks k0 n).length = n * 3 := by rw [bkMarks, flat_length (bkMark k0) 3 (fun _ => rfl)]; simp
theorem bkMarks_get {k0 n k : Nat} (h : k < n) (j : Nat) (hj : j < 3) : (bkMarks k0 n)[k * 3 + j]? = (bkMark k0 k)[j]? := flat_get (bkMark k0) 3 (fun _ => rfl) (List.range n) k k (by simp [h]) j hj
end Go.Proofs.YtjmlcobbjpmjpaaGreatDoor
namespace Go.Proofs.YtjmlcobbjpmjpaaGreatDoor
open Go.RowKit

theorem Blk.only3 {lo hi g : Nat} {t : TypeId} {cs : Array Value} {w w' : World} (h : Blk w g t cs) (ho : Only lo hi w w') (hd : g < lo ∨ hi ≤ g) : Blk w' g t cs := (ho.block g h.lt hd).trans h
theorem Blk.cast3 {g : Nat} {t : TypeId} {cs cs' : Array Value} {w : World} (h : Blk w g t cs) (e : cs = cs') : Blk w g t cs' := e ▸ h
theorem info_bkD : (Tryz.prog.info? 26).map (fun i => (i.zero, i.size, i.bytes)) = some (some (.agg #[.int .i64 0, .string ⟨#[]⟩, .int .i64 0]), 3, 32) := by kernel_rfl
theorem bks_snocD (l : List Bk) (x : Bk) : bks l ++ cellsBk x = bks (l ++ [x]) := by simp [bks]
theorem bk_oneD (x : Bk) : ∀ u ∈ cellsBk x, u.oneCell' = true := by
  intro u hu
  simp only [cellsBk, List.mem_cons, List.not_mem_nil, or_false] at hu
  rcases hu with h | h | h <;> subst h <;> rfl
theorem texts_small {t : ByteArray} : (t ∈ ([⟨#[98, 97, 110, 107]⟩, ⟨#[119, 97, 114, 100]⟩, ⟨#[108, 97, 98, 45, 50]⟩] : List ByteArray) → t.size ≤ 12) ∧ (t ∈ ([⟨#[]⟩, ⟨#[66, 97, 110, 107]⟩, ⟨#[98, 97, 110, 107]⟩] : List ByteArray) → t.size ≤ 12) ∧ (t ∈ ([⟨#[98, 97, 110, 107]⟩, ⟨#[98, 97, 110, 107]⟩, ⟨#[119, 97, 114, 100]⟩, ⟨#[108, 97, 98, 45, 50]⟩, ⟨#[110, 111, 110, 101]⟩, ⟨#[]⟩, ⟨#[66, 97, 110, 107]⟩] : List ByteArray) → t.size ≤ 12) := by
  refine ⟨fun h => ?_, fun h => ?_, fun h => ?_⟩
  · simp only [List.mem_cons, List.not_mem_nil, or_false] at h
    rcases h with h | h | h <;> subst h <;> decide
  · simp only [List.mem_cons, List.not_mem_nil, or_false] at h
    rcases h with h | h | h <;> subst h <;> decide
  · simp only [List.mem_cons, List.not_mem_nil, or_false] at h
    rcases h with h | h | h | h | h | h | h <;> subst h <;> decide
def GoodB (l : List Bk) : Prop := ∀ x ∈ l, x.good ∧ x.small
theorem good_bk {d a : Int} {t : ByteArray} (hd : I64 d) (ha : I64 a) (ht : t.size ≤ 12) : (⟨d, t, a⟩ : Bk).good ∧ (⟨d, t, a⟩ : Bk).small := ⟨⟨hd, by simp only; omega, ha⟩, by unfold Bk.small; simp only; omega⟩
theorem bks_set : ∀ (l : List Bk) (j : Nat), j < l.length → GoodB l → (∀ z, I64 z → ∃ l' : List Bk, l'.length = l.length ∧ GoodB l' ∧ (bks l).set (j * 3) (.int .i64 z) = bks l') ∧ (∀ s : ByteArray, s.size ≤ 12 → ∃ l' : List Bk, l'.length = l.length ∧ GoodB l' ∧ (bks l).set (j * 3 + 1) (.string s) = bks l') ∧ (∀ z, I64 z → ∃ l' : List Bk, l'.length = l.length ∧ GoodB l' ∧ (bks l).set (j * 3 + 2) (.int .i64 z) = bks l')
  | [], j, h, _ => by simp at h
  | a :: l, 0, h, hg => by
    have ha := hg a (by simp)
    have hl : GoodB l := fun x hx => hg x (by simp [hx])
    have cons : ∀ b : Bk, b.good ∧ b.small → GoodB (b :: l) := fun b hb x hx => by
      rcases List.mem_cons.1 hx with e | e
      · subst e; exact hb
      · exact hl x e
    refine ⟨fun z hz => ⟨⟨z, a.client, a.amount⟩ :: l, rfl, cons _ ⟨⟨hz, ha.1.2.1, ha.1.2.2⟩, ha.2⟩, rfl⟩, fun s hs => ⟨⟨a.day, s, a.amount⟩ :: l, rfl, cons _ ⟨⟨ha.1.1, by simp only; omega, ha.1.2.2⟩, by unfold Bk.small; simp only; omega⟩, rfl⟩, fun z hz => ⟨⟨a.day, a.client, z⟩ :: l, rfl, cons _ ⟨⟨ha.1.1, ha.1.2.1, hz⟩, ha.2⟩, rfl⟩⟩
  | a :: l, j + 1, h, hg => by
    have ha := hg a (by simp)
    have hl : GoodB l := fun x hx => hg x (by simp [hx])
    have cons : ∀ l', GoodB l' → GoodB (a :: l') := fun l' hl' x hx => by
      rcases List.mem_cons.1 hx with e | e
      · subst e; exact ha
      · exact hl' x e
    obtain ⟨h1, h2, h3⟩ := bks_set l j (by simpa using h) hl
    refine ⟨fun z hz => ?_, fun s hs => ?_, fun z hz => ?_⟩
    · obtain ⟨l', e1, e2, e3⟩ := h1 z hz
      refine ⟨a :: l', by simp [e1], cons _ e2, ?_⟩
      rw [show (j + 1) * 3 = j * 3 + 1 + 1 + 1 by omega]
      show Value.int .i64 a.day :: .string a.client :: .int .i64 a.amount :: (bks l).set (j * 3) (.int .i64 z) = _
      rw [e3]; rfl
    · obtain ⟨l', e1, e2, e3⟩ := h2 s hs
      refine ⟨a :: l', by simp [e1], cons _ e2, ?_⟩
      rw [show (j + 1) * 3 + 1 = j * 3 + 1 + 1 + 1 + 1 by omega]
      show Value.int .i64 a.day :: .string a.client :: .int .i64 a.amount :: (bks l).set (j * 3 + 1) (.string s) = _
      rw [e3]; rfl
    · obtain ⟨l', e1, e2, e3⟩ := h3 z hz
      refine ⟨a :: l', by simp [e1], cons _ e2, ?_⟩
      rw [show (j + 1) * 3 + 2 = j * 3 + 2 + 1 + 1 + 1 by omega]
      show Value.int .i64 a.day :: .string a.client :: .int .i64 a.amount :: (bks l).set (j * 3 + 2) (.int .i64 z) = _
      rw [e3]; rfl
/-- What a draw of bookings leaves. -/
def BkDrawn (g k q : Nat) (w : World) (e : Ending) (w' : World) : Prop :=
  ∃ (l : List Bk) (A : Option Addr) (d : Nat), e = .returned (.slice A l.length d) ∧ l.length ≤ 81 ∧ GoodB l ∧ Sl w' w.heap.size w'.heap.size 26 3 A l.length d (bks l) ∧ Src g (k + q) w' ∧ Only g (g + 1) w w'

set_option maxHeartbeats 4000000 in
set_option maxRecDepth 100000 in
theorem l25Draw_any (g k : Nat) (w : World) (h : Src g k w) (hk : k ≤ 10000000000) :
    Calls Tryz.prog 82 #[.pointer (some ⟨g, 0, none⟩)] w fun e w' => BkDrawn g k 1000 w e w' := by
  have hgw := h.lt
  have HSL0 := Lib.hid (Sl.made w 26 3)
  go_enter Tryz.func82, Tryz.ntmps82
  go_wp2_with fail
  refine (pick_any g k 12 _ (h.alloc _) (by omega) ⟨by omega, by omega⟩).mono ?_
  rintro e w1 ⟨x1, rfl, hx1, s1, o1⟩
  have hx1a := hx1.lt (by omega)
  have hx1b := hx1.1
  clear hx1 h
  have z1 := o1.size
  simp at z1
  have HO1 := Lib.hid (show Only g (g + 1) w w1 from (((Only.refl g (g + 1) w).alloc _).trans o1))
  have HSL1 := Lib.hid (HSL0.out.apart o1 (Or.inr (by omega)))
  clear o1
  obtain ⟨N1, rfl⟩ := Int.eq_ofNat_of_zero_le hx1b
  go_wp2_with fail
  refine (one_any g _ 24 _ s1 (by omega) ⟨by omega, by omega⟩).mono ?_
  rintro e w2 ⟨b2, rfl, s2, o2⟩
  have z2 := o2.size
  have HO2 := Lib.hid (HO1.out.trans o2)
  have HSL2 := Lib.hid (HSL1.out.apart o2 (Or.inr (by omega)))
  clear o2 s1
  go_upto_if 12 with fail
  go_cut [5] (fun s5 wx => ∃ N : Nat, N ≤ 81 ∧ s5 = .int .i64 (N : Int) ∧ Src g (k + 6) wx ∧ Only g (g + 1) w wx ∧ Sl wx w.heap.size (w.heap.size + 1) 26 3 (some ⟨w.heap.size, 0, none⟩) 0 0 [] ∧ w.heap.size < wx.heap.size)
  case first =>
    rcases b2 with _ | _
    · go_wp2_with fail
      go_meet
      exact ⟨N1, by omega, rfl, s2.more (by omega), HO2.out, HSL2.out, by omega⟩
    · go_wp2_with fail
      refine (pick_any g _ 2 _ s2 (by omega) ⟨by omega, by omega⟩).mono ?_
      rintro e w3 ⟨x3, rfl, hx3, s3, o3⟩
      have hx3a := hx3.lt (by omega)
      have hx3b := hx3.1
      clear hx3
      have z3 := o3.size
      have HO3 := Lib.hid (HO2.out.trans o3)
      have HSL3 := Lib.hid (HSL2.out.apart o3 (Or.inr (by omega)))
      clear o3 s2
      obtain ⟨N3, rfl⟩ := Int.eq_ofNat_of_zero_le hx3b
      go_wp2_with fail
      go_meet
      exact ⟨80 + N3, by omega, by simp, s3.more (by omega), HO3.out, HSL3.out, by omega⟩
  case rest =>
    obtain ⟨N, hN, rfl, s4, o4, sl4, z4⟩ := hcut
    have HO4 := Lib.hid o4
    have HSL4 := Lib.hid (sl4.wide (Nat.le_refl _) (hi' := wc.heap.size) (by omega))
    clear o4 sl4 HSL0 HSL1 HSL2 HO1 HO2
    go_wp2
    go_loopw [3, 4, 6] (fun o dy i wr => ∃ (l : List Bk) (A : Option Addr) (d r : Nat) (D : Int), r + l.length = N ∧ i = .int .i64 (r : Int) ∧ dy = .int .i64 D ∧ 0 ≤ D ∧ D ≤ 10 * (l.length : Int) ∧ o = .slice A l.length d ∧ GoodB l ∧ Sl wr w.heap.size wr.heap.size 26 3 A l.length d (bks l) ∧ Src g (k + 6 + 10 * l.length) wr ∧ Only g (g + 1) w wr) (fun _ _ i _ => (intOf i).toNat)
    case atStart => exact ⟨[], _, _, N, 0, by simp, rfl, rfl, by omega, by simp, rfl, fun x hx => by simp at hx, HSL4.out, s4.more (by simp), HO4.out⟩
    case round =>
      obtain ⟨l, A, d, r, D, hr, rfl, rfl, hD0, hD1, rfl, hgd, hsl, hs, ho⟩ := hrel
      have HSL := Lib.hid hsl
      have HS := Lib.hid hs
      have HO := Lib.hid ho
      have HR := Lib.hid hr
      have HG := Lib.hid hgd
      have hll : l.length ≤ 81 := by omega
      have zr := ho.size
      clear hsl hs ho hr hgd HSL4 HO4 s4
      rcases Nat.eq_zero_or_pos r with h0 | h0
      · obtain rfl := h0
        go_wp2
        go_ret
        exact ⟨l, A, d, rfl, hll, HG.out, HSL.out, HS.out.more (by omega), HO.out⟩
      · obtain ⟨q, rfl⟩ : ∃ q, r = q + 1 := ⟨r - 1, by omega⟩
        clear h0
        have hq1 : q ≤ 81 := by have := HR.out; omega
        go_wp2_with fail
        refine (pick_any g _ 9 _ HS.out (by omega) ⟨by omega, by omega⟩).mono ?_
        rintro e w5 ⟨x5, rfl, hx5, s5, o5⟩
        have hx5a := hx5.lt (by omega)
        have hx5b := hx5.1
        clear hx5
        have z5 := o5.size
        have HO5 := Lib.hid ((HO.out.trans o5).alloc (.cells #[.string ⟨#[98, 97, 110, 107]⟩, .string ⟨#[119, 97, 114, 100]⟩, .string ⟨#[108, 97, 98, 45, 50]⟩] 9))
        have HSL5 := Lib.hid ((HSL.out.apart o5 (Or.inr (by omega))).up (.cells #[.string ⟨#[98, 97, 110, 107]⟩, .string ⟨#[119, 97, 114, 100]⟩, .string ⟨#[108, 97, 98, 45, 50]⟩] 9))
        clear o5
        go_wp2_with fail
        refine (text_any g _ w5.heap.size 3 9 [⟨#[98, 97, 110, 107]⟩, ⟨#[119, 97, 114, 100]⟩, ⟨#[108, 97, 98, 45, 50]⟩] _ (s5.alloc _) (by omega) (Blk.new w5 _ _) rfl (by omega) (by omega) (by omega)).mono ?_
        rintro e w6 ⟨t6, rfl, ht6, s6, o6⟩
        have hts := texts_small.1 ht6
        clear ht6
        have z6 := o6.size
        simp at z6
        have yv := Blk.new w6 26 #[.int .i64 (D + x5), .string t6, .int .i64 0]
        have HOv := Lib.hid ((HO5.out.trans o6).alloc (.cells #[.int .i64 (D + x5), .string t6, .int .i64 0] 26))
        have HSLv := Lib.hid ((HSL5.out.apart o6 (Or.inr (by omega))).up (.cells #[.int .i64 (D + x5), .string t6, .int .i64 0] 26))
        clear o6
        go_wp2_with fail
        refine (pick_any g _ 40 _ (s6.alloc _) (by omega) ⟨by omega, by omega⟩).mono ?_
        rintro e w7 ⟨x7, rfl, hx7, s7, o7⟩
        have hx7a := hx7.lt (by omega)
        have hx7b := hx7.1
        clear hx7 s6
        have z7 := o7.size
        simp at z7
        have y7 := yv.only3 o7 (Or.inr (by omega))
        have HO7 := Lib.hid ((HOv.out.trans o7).far (p := ⟨w6.heap.size, 2, none⟩) (by simp; omega) (.int .i64 (10 * (1 + x7))))
        have HSL7 := Lib.hid ((HSLv.out.apart o7 (Or.inr (by omega))).farSet (p := ⟨w6.heap.size, 2, none⟩) (by simp; omega) (.int .i64 (10 * (1 + x7))))
        have c72 := y7.cellAt 2 (by simp)
        have f72 := y7.frozen 2
        simp only [List.getElem_toArray, List.getElem_cons_zero, List.getElem_cons_succ] at c72
        have y7s := (y7.set_ 2 (.int .i64 (10 * (1 + x7)))).cast3 (cs' := #[.int .i64 (D + x5), .string t6, .int .i64 (10 * (1 + x7))]) rfl
        clear o7 yv y7
        go_wp2_with fail
        refine (one_any g _ 2 _ (s7.set_ (by simp; omega) _) (by omega) ⟨by omega, by omega⟩).mono ?_
        rintro e w8 ⟨b8, rfl, s8, o8⟩
        have z8 := o8.size
        simp [World.setCell] at z8
        have y8 := y7s.only3 o8 (Or.inr (by omega))
        have HO8 := Lib.hid (HO7.out.trans o8)
        have HSL8 := Lib.hid (HSL7.out.apart o8 (Or.inr (by omega)))
        clear o8 y7s s7 c72 f72
        go_upto_if 36 with fail
        go_cut [] (fun wx => ∃ am : Int, I64 am ∧ Blk wx w6.heap.size 26 #[.int .i64 (D + x5), .string t6, .int .i64 am] ∧ Src g (k + 6 + 10 * l.length + 8) wx ∧ Only g (g + 1) w wx ∧ Sl wx w.heap.size wr.heap.size 26 3 A l.length d (bks l) ∧ w8.heap.size ≤ wx.heap.size)
        case first =>
          have c82 := y8.cellAt 2 (by simp)
          have f82 := y8.frozen 2
          simp only [List.getElem_toArray, List.getElem_cons_zero, List.getElem_cons_succ] at c82
          rcases b8 with _ | _
          · go_wp2_with fail
            go_meet
            exact ⟨_, ⟨by omega, by omega⟩, y8, s8.more (by omega), HO8.out, HSL8.out, Nat.le_refl _⟩
          · have y8s := (y8.set_ 2 (.int .i64 (-(10 * (1 + x7))))).cast3 (cs' := #[.int .i64 (D + x5), .string t6, .int .i64 (-(10 * (1 + x7)))]) rfl
            go_wp2_with fail
            go_meet
            exact ⟨_, ⟨by omega, by omega⟩, y8s, (s8.set_ (by simp; omega) _).more (by omega), HO8.out.far (by simp; omega) _, HSL8.out.farSet (by simp; omega) _, by simp [World.setCell]⟩
        case rest =>
          obtain ⟨am, ham, y9, s9, o9, sl9, z9⟩ := hcut
          have d0 := y9.cellAt 0 (by simp)
          have d1 := y9.cellAt 1 (by simp)
          have d2 := y9.cellAt 2 (by simp)
          simp only [List.getElem_toArray, List.getElem_cons_zero, List.getElem_cons_succ] at d0 d1 d2
          have HO9 := Lib.hid o9
          have HSL9 := Lib.hid sl9
          clear y9 y8 o9 sl9 s8
          go_wp2_with (at_builtin; refine wpList_oneF rfl _ _ 24 rfl 26 _ 3 32 Tryz.underlying24 info_bkD rfl (by decide) (by decide) HSL9.out (by omega) rfl (cellsBk ⟨D + x5, t6, am⟩) _ rfl rfl rfl (bk_oneD _) (by omega) ?_; intro A10 d10 w10 sl10 b10 z10 f10 g10; have HSL10 := Lib.hid sl10; have HB10 := Lib.hid b10; clear sl10 b10 f10 g10)
          go_roundw
          case rel => exact ⟨l ++ [⟨D + x5, t6, am⟩], A10, d10, q, D + x5, by have := HR.out; simp; omega, by go_num, rfl, by omega, by simp; omega, by simp, fun x hx => by
              rcases List.mem_append.1 hx with hx | hx
              · exact HG.out x hx
              · rw [List.mem_singleton] at hx; subst hx; exact good_bk ⟨by omega, by omega⟩ ham hts, by have := HSL10.out; rw [bks_snocD] at this; simpa using this, (s9.below HB10.out (by omega)).more (by simp; omega), HO9.out.then HB10.out (by omega)⟩
          case measure => simp [intOf]

end Go.Proofs.YtjmlcobbjpmjpaaGreatDoor
namespace Go.Proofs.YtjmlcobbjpmjpaaGreatDoor
open Go.RowKit

/-- What spoiling leaves: at most one cell of the booking turned. -/
def Spoilt (g k b o : Nat) (w : World) (w' : World) : Prop :=
  ∃ w1, Src g (k + 4) w1 ∧ Only g (g + 1) w w1 ∧ (w' = w1 ∨ (∃ z, I64 z ∧ w' = w1.setCell ⟨b, o, none⟩ (.int .i64 z)) ∨ (∃ s : ByteArray, s.size ≤ 12 ∧ w' = w1.setCell ⟨b, o + 1, none⟩ (.string s)) ∨ (∃ z, I64 z ∧ w' = w1.setCell ⟨b, o + 2, none⟩ (.int .i64 z)))
set_option maxHeartbeats 4000000 in
set_option maxRecDepth 100000 in
theorem l25Spoil_any (g k b o : Nat) (u0 u1 u2 : Value) (w : World) (h : Src g k w) (hk : k ≤ 10000000000) (hgb : g < b) (hb : b < w.heap.size)
    (c0 : w.cell? ⟨b, o, none⟩ = some u0) (c1 : w.cell? ⟨b, o + 1, none⟩ = some u1) (c2 : w.cell? ⟨b, o + 2, none⟩ = some u2) (f0 : w.frozen? ⟨b, o, none⟩ = false) (f1 : w.frozen? ⟨b, o + 1, none⟩ = false) (f2 : w.frozen? ⟨b, o + 2, none⟩ = false) :
    Calls Tryz.prog 61 #[.pointer (some ⟨g, 0, none⟩), .pointer (some ⟨b, o, none⟩)] w fun e w' => e = .returned (.tuple #[]) ∧ Spoilt g k b o w w' := by
  have C0 := Lib.hid c0
  have C1 := Lib.hid c1
  have C2 := Lib.hid c2
  have F0 := Lib.hid f0
  have F1 := Lib.hid f1
  have F2 := Lib.hid f2
  clear c0 c1 c2 f0 f1 f2
  go_enter Tryz.func61, Tryz.ntmps61
  go_wp2_with fail
  refine (pick_any g k 3 _ h (by omega) ⟨by omega, by omega⟩).mono ?_
  rintro e w1 ⟨x1, rfl, hx1, s1, o1⟩
  clear hx1 h
  have z1 := o1.size
  have bq := o1.block b hb (by omega)
  have c10 := (World.cell?_of_block (a := ⟨b, o, none⟩) bq).trans C0.out
  have c11 := (World.cell?_of_block (a := ⟨b, o + 1, none⟩) bq).trans C1.out
  have c12 := (World.cell?_of_block (a := ⟨b, o + 2, none⟩) bq).trans C2.out
  have f10 := (World.frozen?_of_block (a := ⟨b, o, none⟩) bq).trans F0.out
  have f11 := (World.frozen?_of_block (a := ⟨b, o + 1, none⟩) bq).trans F1.out
  have f12 := (World.frozen?_of_block (a := ⟨b, o + 2, none⟩) bq).trans F2.out
  have HO1 := Lib.hid o1
  clear o1 bq

  by_cases h0 : x1 = 0
  · subst h0
    go_wp2_with fail
    refine (among_any g _ w1.heap.size 4 2 [-1, 0, 20000, 20001] _ (s1.alloc _) (by omega) (Blk.new w1 _ _) rfl (by omega) (by omega) (by omega)).mono ?_
    rintro e w2 ⟨z, rfl, hz, s2, o2⟩
    have hzi := show I64 z by simp only [List.mem_cons, List.not_mem_nil, or_false] at hz; unfold I64; omega
    clear hz
    have z2 := o2.size
    simp at z2
    have bk : (w1.alloc (.cells #[.int .i64 (-1), .int .i64 (0), .int .i64 (20000), .int .i64 (20001)] 2)).heap[b]? = w1.heap[b]? := Below.heap_alloc w1 _ b (by omega)
    have bk2 := o2.block b (by simp; omega) (by omega)
    have c2 := (World.cell?_of_block (a := ⟨b, o, none⟩) (bk2.trans bk)).trans c10
    have f2 := (World.frozen?_of_block (a := ⟨b, o, none⟩) (bk2.trans bk)).trans f10
    have HO := Lib.hid ((HO1.out.alloc (.cells #[.int .i64 (-1), .int .i64 (0), .int .i64 (20000), .int .i64 (20001)] 2)).trans o2)
    clear bk bk2 o2
    go_wp2
    go_end0
    exact ⟨rfl, w2, s2.more (by omega), HO.out, .inr (.inl ⟨z, hzi, rfl⟩)⟩
  by_cases h1 : x1 = 1
  · subst h1
    go_wp2_with fail
    refine (text_any g _ w1.heap.size 3 9 [⟨#[]⟩, ⟨#[66, 97, 110, 107]⟩, ⟨#[98, 97, 110, 107]⟩] _ (s1.alloc _) (by omega) (Blk.new w1 _ _) rfl (by omega) (by omega) (by omega)).mono ?_
    rintro e w2 ⟨z, rfl, hz, s2, o2⟩
    have hzi := texts_small.2.1 hz
    clear hz
    have z2 := o2.size
    simp at z2
    have bk : (w1.alloc (.cells #[.string ⟨#[]⟩, .string ⟨#[66, 97, 110, 107]⟩, .string ⟨#[98, 97, 110, 107]⟩] 9)).heap[b]? = w1.heap[b]? := Below.heap_alloc w1 _ b (by omega)
    have bk2 := o2.block b (by simp; omega) (by omega)
    have c2 := (World.cell?_of_block (a := ⟨b, o + 1, none⟩) (bk2.trans bk)).trans c11
    have f2 := (World.frozen?_of_block (a := ⟨b, o + 1, none⟩) (bk2.trans bk)).trans f11
    have HO := Lib.hid ((HO1.out.alloc (.cells #[.string ⟨#[]⟩, .string ⟨#[66, 97, 110, 107]⟩, .string ⟨#[98, 97, 110, 107]⟩] 9)).trans o2)
    clear bk bk2 o2
    go_wp2
    go_end0
    exact ⟨rfl, w2, s2.more (by omega), HO.out, .inr (.inr (.inl ⟨z, hzi, rfl⟩))⟩
  by_cases h2 : x1 = 2
  · subst h2
    go_wp2_with fail
    refine (among_any g _ w1.heap.size 7 2 [0, 1, -1000000001, -1000000000, 1000000000, 1000000001, -9223372036854775808] _ (s1.alloc _) (by omega) (Blk.new w1 _ _) rfl (by omega) (by omega) (by omega)).mono ?_
    rintro e w2 ⟨z, rfl, hz, s2, o2⟩
    have hzi := show I64 z by simp only [List.mem_cons, List.not_mem_nil, or_false] at hz; unfold I64; omega
    clear hz
    have z2 := o2.size
    simp at z2
    have bk : (w1.alloc (.cells #[.int .i64 (0), .int .i64 (1), .int .i64 (-1000000001), .int .i64 (-1000000000), .int .i64 (1000000000), .int .i64 (1000000001), .int .i64 (-9223372036854775808)] 2)).heap[b]? = w1.heap[b]? := Below.heap_alloc w1 _ b (by omega)
    have bk2 := o2.block b (by simp; omega) (by omega)
    have c2 := (World.cell?_of_block (a := ⟨b, o + 2, none⟩) (bk2.trans bk)).trans c12
    have f2 := (World.frozen?_of_block (a := ⟨b, o + 2, none⟩) (bk2.trans bk)).trans f12
    have HO := Lib.hid ((HO1.out.alloc (.cells #[.int .i64 (0), .int .i64 (1), .int .i64 (-1000000001), .int .i64 (-1000000000), .int .i64 (1000000000), .int .i64 (1000000001), .int .i64 (-9223372036854775808)] 2)).trans o2)
    clear bk bk2 o2
    go_wp2
    go_end0
    exact ⟨rfl, w2, s2.more (by omega), HO.out, .inr (.inr (.inr ⟨z, hzi, rfl⟩))⟩
  · have h0' : (x1 == 0) = false := by rw [beq_eq_false_iff_ne]; exact h0
    have h1' : (x1 == 1) = false := by rw [beq_eq_false_iff_ne]; exact h1
    have h2' : (x1 == 2) = false := by rw [beq_eq_false_iff_ne]; exact h2
    go_wp2
    go_end0
    exact ⟨rfl, w1, s1.more (by omega), HO1.out, .inl rfl⟩

set_option maxHeartbeats 4000000 in
set_option maxRecDepth 100000 in
theorem l25Bent_any (g k : Nat) (w : World) (h : Src g k w) (hk : k ≤ 1000000000) :
    Calls Tryz.prog 58 #[.pointer (some ⟨g, 0, none⟩)] w fun e w' => BkDrawn g k 1010 w e w' := by
  have hgw := h.lt
  go_enter Tryz.func58, Tryz.ntmps58
  go_wp2_with fail
  refine (l25Draw_any g k _ h (by omega)).mono ?_
  rintro e w1 ⟨l, A, d, rfl, hl, hgd, sl1, s1, o1⟩
  have z1 := o1.size
  have HO1 := Lib.hid o1
  have HSL1 := Lib.hid sl1
  have HG := Lib.hid hgd
  clear o1 sl1 hgd h
  rcases Nat.eq_zero_or_pos l.length with h0 | h0
  · have hd0 : decide ((0 : Int) < (l.length : Int)) = false := by rw [decide_eq_false_iff_not]; omega
    have hd1 : decide (0 < l.length) = false := by rw [decide_eq_false_iff_not]; omega
    clear h0
    go_wp2
    go_ret
    exact ⟨l, A, d, rfl, hl, HG.out, HSL1.out, s1.more (by omega), HO1.out⟩
  · have hd0 : decide ((0 : Int) < (l.length : Int)) = true := by rw [decide_eq_true_iff]; omega
    obtain ⟨go, rfl, hgo1, hgo2, hgo3⟩ := HSL1.out.lt h0
    go_wp2_with fail
    refine (one_any g _ 10 _ s1 (by omega) ⟨by omega, by omega⟩).mono ?_
    rintro e w2 ⟨b2, rfl, s2, o2⟩
    have z2 := o2.size
    have HO2 := Lib.hid (HO1.out.trans o2)
    have HSL2 := Lib.hid (HSL1.out.apart o2 (Or.inr (by omega)))
    clear o2 s1
    rcases b2 with _ | _
    · go_wp2
      go_ret
      exact ⟨l, _, d, rfl, hl, HG.out, HSL2.out.wide (Nat.le_refl _) (by omega), s2.more (by omega), HO2.out⟩
    · go_wp2_with fail
      refine (pick_any g _ l.length _ s2 (by omega) ⟨by omega, by omega⟩).mono ?_
      rintro e w3 ⟨x3, rfl, hx3, s3, o3⟩
      have hx3a := hx3.lt (by omega)
      have hx3b := hx3.1
      clear hx3 s2
      have z3 := o3.size
      have HO3 := Lib.hid (HO2.out.trans o3)
      have HSL3 := Lib.hid (HSL2.out.apart o3 (Or.inr (by omega)))
      clear o3
      obtain ⟨j, rfl⟩ := Int.eq_ofNat_of_zero_le hx3b
      have hj : j < l.length := by omega
      obtain ⟨e0, e1, e2⟩ := bks_get (List.getElem?_eq_getElem hj)
      have q0 := (HSL3.out.cellAt (j * 3) (by omega)).trans e0
      have q1 := (HSL3.out.cellAt (j * 3 + 1) (by omega)).trans e1
      have q2 := (HSL3.out.cellAt (j * 3 + 2) (by omega)).trans e2
      have hj0 : (0 : Int) ≤ j := by omega
      clear e0 e1 e2
      go_wp2_with fail
      refine (l25Spoil_any g _ go (j * 3) _ _ _ _ s3 (by omega) (by omega) (by omega) q0 q1 q2 (HSL3.out.frozenAt _) (HSL3.out.frozenAt _) (HSL3.out.frozenAt _)).mono ?_
      rintro e w5 ⟨rfl, w4, s4, o4, hw5⟩
      have z4 := o4.size
      have HO4 := Lib.hid (HO3.out.trans o4)
      have HSL4 := Lib.hid (HSL3.out.apart o4 (Or.inr (by omega)))
      clear q0 q1 q2 o4 s3
      obtain ⟨b1, b2, b3⟩ := bks_set l j hj HG.out
      have key : BkDrawn g k 1010 w (.returned (.slice (some ⟨go, 0, none⟩) l.length d)) w5 := by
        rcases hw5 with rfl | ⟨z, hz, rfl⟩ | ⟨z, hz, rfl⟩ | ⟨z, hz, rfl⟩
        · exact ⟨l, _, d, rfl, hl, HG.out, HSL4.out.wide (Nat.le_refl _) (by omega), s4.more (by omega), HO4.out⟩
        · obtain ⟨l', e1, e2, e3⟩ := b1 z hz
          refine ⟨l', some ⟨go, 0, none⟩, d, by rw [e1], by omega, e2, ?_, (s4.set_ (by simp; omega) _).more (by omega), HO4.out.far (by simp; omega) _⟩
          have := (HSL4.out.set_ (j * 3) (.int .i64 z)).wide (Nat.le_refl _) (hi' := (w4.setCell ⟨go, j * 3, none⟩ (.int .i64 z)).heap.size) (by simp [World.setCell]; omega)
          rw [e3] at this; rw [e1]; exact this
        · obtain ⟨l', e1, e2, e3⟩ := b2 z hz
          refine ⟨l', some ⟨go, 0, none⟩, d, by rw [e1], by omega, e2, ?_, (s4.set_ (by simp; omega) _).more (by omega), HO4.out.far (by simp; omega) _⟩
          have := (HSL4.out.set_ (j * 3 + 1) (.string z)).wide (Nat.le_refl _) (hi' := (w4.setCell ⟨go, j * 3 + 1, none⟩ (.string z)).heap.size) (by simp [World.setCell]; omega)
          rw [e3] at this; rw [e1]; exact this
        · obtain ⟨l', e1, e2, e3⟩ := b3 z hz
          refine ⟨l', some ⟨go, 0, none⟩, d, by rw [e1], by omega, e2, ?_, (s4.set_ (by simp; omega) _).more (by omega), HO4.out.far (by simp; omega) _⟩
          have := (HSL4.out.set_ (j * 3 + 2) (.int .i64 z)).wide (Nat.le_refl _) (hi' := (w4.setCell ⟨go, j * 3 + 2, none⟩ (.int .i64 z)).heap.size) (by simp [World.setCell]; omega)
          rw [e3] at this; rw [e1]; exact this
      have KEY := Lib.hid key
      clear key hw5 b1 b2 b3 s4
      go_wp2
      go_ret
      exact KEY.out
theorem l25Client_any (g k : Nat) (w : World) (h : Src g k w) (hk : k ≤ 10000000000) :
    Calls Tryz.prog 139 #[.pointer (some ⟨g, 0, none⟩)] w fun e w' => ∃ s : ByteArray, e = .returned (.string s) ∧ s.size ≤ 12 ∧ Src g (k + 2) w' ∧ Only g (g + 1) w w' := by
  have hgw := h.lt
  go_enter Tryz.func139, Tryz.ntmps139
  go_wp2_with fail
  refine (text_any g _ w.heap.size 7 9 [⟨#[98, 97, 110, 107]⟩, ⟨#[98, 97, 110, 107]⟩, ⟨#[119, 97, 114, 100]⟩, ⟨#[108, 97, 98, 45, 50]⟩, ⟨#[110, 111, 110, 101]⟩, ⟨#[]⟩, ⟨#[66, 97, 110, 107]⟩] _ (h.alloc _) (by omega) (Blk.new w _ _) rfl (by omega) (by omega) (by omega)).mono ?_
  rintro e w1 ⟨s, rfl, hs, s1, o1⟩
  have hss := texts_small.2.2 hs
  have HO := Lib.hid (((Only.refl g (g + 1) w).alloc (.cells #[.string ⟨#[98, 97, 110, 107]⟩, .string ⟨#[98, 97, 110, 107]⟩, .string ⟨#[119, 97, 114, 100]⟩, .string ⟨#[108, 97, 98, 45, 50]⟩, .string ⟨#[110, 111, 110, 101]⟩, .string ⟨#[]⟩, .string ⟨#[66, 97, 110, 107]⟩] 9)).trans o1)
  clear hs o1
  go_wp2
  go_ret
  exact ⟨s, rfl, hss, s1, HO.out⟩
theorem l25DrawDay_any (g k : Nat) (w : World) (h : Src g k w) (hk : k ≤ 10000000000) :
    Calls Tryz.prog 140 #[.pointer (some ⟨g, 0, none⟩)] w fun e w' => ∃ x : Int, e = .returned (.int .i64 x) ∧ I64 x ∧ Src g (k + 4) w' ∧ Only g (g + 1) w w' := by
  have hgw := h.lt
  go_enter Tryz.func140, Tryz.ntmps140
  go_wp2_with fail
  refine (one_any g _ 10 _ h (by omega) ⟨by omega, by omega⟩).mono ?_
  rintro e w1 ⟨b1, rfl, s1, o1⟩
  have z1 := o1.size
  have HO1 := Lib.hid o1
  clear o1 h
  rcases b1 with _ | _
  · go_wp2_with fail
    refine (pick_any g _ 100 _ s1 (by omega) ⟨by omega, by omega⟩).mono ?_
    rintro e w2 ⟨x, rfl, hx, s2, o2⟩
    have HX := Lib.hid (show I64 x from ⟨by have := hx.1; omega, by have := hx.2.2.2; omega⟩)
    have HO2 := Lib.hid (HO1.out.trans o2)
    clear hx o2
    go_wp2
    go_ret
    exact ⟨x, rfl, HX.out, s2, HO2.out⟩
  · go_wp2_with fail
    refine (among_any g _ w1.heap.size 4 2 [-1, 0, 20001, -9223372036854775808] _ (s1.alloc _) (by omega) (Blk.new w1 _ _) rfl (by omega) (by omega) (by omega)).mono ?_
    rintro e w2 ⟨x, rfl, hx, s2, o2⟩
    have HX := Lib.hid (show I64 x by simp only [List.mem_cons, List.not_mem_nil, or_false] at hx; unfold I64; omega)
    have HO2 := Lib.hid ((HO1.out.alloc (.cells #[.int .i64 (-1), .int .i64 (0), .int .i64 (20001), .int .i64 (-9223372036854775808)] 2)).trans o2)
    clear hx o2
    go_wp2
    go_ret
    exact ⟨x, rfl, HX.out, s2, HO2.out⟩
/-- Bookings, as the laws draw them. -/
def BksOut (w : World) (l : List Bk) (A : Option Addr) (d : Nat) (w' : World) : Prop := l.length ≤ 81 ∧ GoodB l ∧ Sl w' w.heap.size w'.heap.size 26 3 A l.length d (bks l) ∧ Below w.heap.size w w'
set_option maxRecDepth 100000 in
theorem l25Ask_any (A : Option Addr) (n c : Nat) (bs : List Int) (w : World) (h : Reads w w.heap.size 1 A n (byts bs)) (hb : ∀ x ∈ bs, Byt x) (hn : n ≤ 9223372036854775807) :
    Calls Tryz.prog 69 #[.slice A n c] w fun e w' => ∃ (l : List Bk) (A' : Option Addr) (d : Nat) (s : ByteArray) (x : Int), e = .returned (.tuple #[.slice A' l.length d, .string s, .int .i64 x]) ∧ s.size ≤ 12 ∧ I64 x ∧ BksOut w l A' d w' := by
  have HH := Lib.hid h
  have HB := Lib.hid hb
  clear h hb
  go_enter Tryz.func69, Tryz.ntmps69
  go_wp2_with fail
  refine (l00From_any A n c bs _ HH.out HB.out hn).mono ?_
  rintro e w1 ⟨rfl, s1, b1, z1⟩
  go_wp2_with fail
  refine (l25Bent_any _ 0 _ s1 (by omega)).mono ?_
  rintro e w2 ⟨l, A', d, rfl, hl, hgd, sl, s2, o2⟩
  have z2 := o2.size
  have HG := Lib.hid hgd
  clear hgd
  go_wp2_with fail
  refine (l25Client_any _ _ _ s2 (by omega)).mono ?_
  rintro e w3 ⟨s, rfl, hss, s3, o3⟩
  have z3 := o3.size
  go_wp2_with fail
  refine (l25DrawDay_any _ _ _ s3 (by omega)).mono ?_
  rintro e w4 ⟨x, rfl, hx, s4, o4⟩
  have z4 := o4.size
  have HSL := Lib.hid ((((sl.apart o3 (Or.inr (by omega))).apart o4 (Or.inr (by omega))).wide (lo' := w.heap.size) (by omega) (hi' := w4.heap.size) (by omega)))
  have HBel := Lib.hid (b1.trans (((o2.trans o3).trans o4).below (Nat.le_refl _) (by omega)))
  clear sl o2 o3 o4 b1
  go_wp2
  refine bodyPost_ret (v := .tuple #[.slice A' l.length d, .string s, .int .i64 x]) (by simp [results, Tryz.results69, go_sem]) rfl ?_
  exact ⟨l, A', d, s, x, rfl, hss, hx, hl, HG.out, HSL.out, HBel.out⟩
end Go.Proofs.YtjmlcobbjpmjpaaGreatDoor
namespace Go.Proofs.YtjmlcobbjpmjpaaGreatDoor
open Go.RowKit

theorem pos0_le {m b : Int} (h : m ≤ b) (hb : 0 ≤ b) : 0 ≤ pos0 m ∧ pos0 m ≤ b := by unfold pos0; split <;> omega
end Go.Proofs.YtjmlcobbjpmjpaaGreatDoor
namespace Go.Proofs.YtjmlcobbjpmjpaaGreatDoor
open Go.RowKit

theorem conv_two (a b : Int) (w : World) : (convert 22 9 (.slice (some ⟨w.heap.size, 0, none⟩) 2 2)).run Tryz.prog (w.alloc (.cells #[.int .u8 a, .int .u8 b] 5)) = .ok (.string (strOfNums [a, b])) (w.alloc (.cells #[.int .u8 a, .int .u8 b] 5)) := by
  have hc : ∀ i : Nat, i < 2 → (w.alloc (.cells #[.int .u8 a, .int .u8 b] 5)).cell? ⟨w.heap.size, 0 + i, none⟩ = some (.int .u8 (([a, b] : List Int).getD i 0)) := by
    intro i hi
    rw [World.cell?_alloc_at _ _ _ _ rfl]
    obtain rfl | rfl : i = 0 ∨ i = 1 := by omega
    · rfl
    · rfl
  rw [run_convert_bytes_arg (P := Tryz.prog) (w.alloc (.cells #[.int .u8 a, .int .u8 b] 5)) 22 5 Tryz.underlying22 Tryz.underlying5 w.heap.size 0 2 2 [a, b] rfl hc 9 Tryz.underlying9]
set_option maxHeartbeats 4000000 in
set_option maxRecDepth 100000 in
theorem l24Bent_any (g k : Nat) (w : World) (h : Src g k w) (hk : k ≤ 100000000) :
    Calls Tryz.prog 87 #[.pointer (some ⟨g, 0, none⟩)] w fun e w' => ClsDrawn g k 500 w e w' := by
  have hgw := h.lt
  go_enter Tryz.func87, Tryz.ntmps87
  go_wp2_with fail
  refine (l24Draw_any g k _ h (by omega)).mono ?_
  rintro e w1 ⟨l1, A1, d1, rfl, hl1, hgd1, sl1, s1, o1⟩
  have z1 := o1.size
  have HO1 := Lib.hid o1
  have HSL1 := Lib.hid sl1
  have HG1 := Lib.hid hgd1
  clear o1 sl1 hgd1 h
  go_wp2_with fail
  refine (one_any g _ 24 _ s1 (by omega) ⟨by omega, by omega⟩).mono ?_
  rintro e w2 ⟨b2, rfl, s2, o2⟩
  have z2 := o2.size
  have HO2 := Lib.hid (HO1.out.trans o2)
  have HSL2 := Lib.hid ((HSL1.out.apart o2 (Or.inr (by omega))).wide (Nat.le_refl _) (hi' := w2.heap.size) (by omega))
  clear o2 s1 HO1 HSL1
  go_upto_if 9 with fail
  go_cut [3] (fun s3 wx => ∃ (l : List Cl) (A : Option Addr) (d : Nat), s3 = .slice A l.length d ∧ (l.length ≤ 31 ∧ A ≠ none) ∧ GoodC l ∧ Sl wx w.heap.size wx.heap.size 48 5 A l.length d (cls l) ∧ Src g (k + 400) wx ∧ Only g (g + 1) w wx ∧ w2.heap.size ≤ wx.heap.size)
  case first =>
    rcases b2 with _ | _
    · go_wp2_with fail
      go_meet
      exact ⟨l1, A1, d1, rfl, hl1, HG1.out, HSL2.out, s2.more (by omega), HO2.out, Nat.le_refl _⟩
    · have HSL0 := Lib.hid (Sl.made w2 48 5)
      clear HSL2 HG1
      go_wp2_with fail
      refine (pick_any g _ 2 _ (s2.alloc _) (by omega) ⟨by omega, by omega⟩).mono ?_
      rintro e w3 ⟨x3, rfl, hx3, s3, o3⟩
      have hx3a := hx3.lt (by omega)
      have hx3b := hx3.1
      clear hx3
      have z3 := o3.size
      simp at z3
      have HO3 := Lib.hid ((HO2.out.alloc _).trans o3)
      have HSL3 := Lib.hid ((HSL0.out.apart o3 (Or.inr (by omega))).wide (lo' := w.heap.size) (by omega) (hi' := w3.heap.size) (by omega))
      clear o3 s2 HSL0
      obtain ⟨N3, rfl⟩ := Int.eq_ofNat_of_zero_le hx3b
      have hN3 : N3 ≤ 1 := by omega
      clear hx3a hx3b
      go_wp2
      go_loopw [3, 4, 5] (fun o i u wr => ∃ (l : List Cl) (A : Option Addr) (d r : Nat), (r + l.length = 30 + N3 ∧ A ≠ none) ∧ i = .int .i64 (r : Int) ∧ o = .slice A l.length d ∧ GoodC l ∧ Sl wr w.heap.size wr.heap.size 48 5 A l.length d (cls l) ∧ Src g (k + 110 + 8 * l.length) wr ∧ Only g (g + 1) w wr ∧ w2.heap.size ≤ wr.heap.size) (fun _ i _ _ => (intOf i).toNat)
      case atStart => exact ⟨[], _, _, 30 + N3, ⟨by simp, by simp⟩, by simp, rfl, fun x hx => by simp at hx, HSL3.out, s3.more (by simp), HO3.out, by omega⟩
      case round =>
        obtain ⟨l, A, d, r, hr, rfl, rfl, hgd, hsl, hs, ho, hzr⟩ := hrel
        have HSL := Lib.hid hsl
        have HS := Lib.hid hs
        have HO := Lib.hid ho
        have HR := Lib.hid hr
        have HG := Lib.hid hgd
        have hll : l.length ≤ 31 := by have := hr.1; omega
        clear hsl hs ho hr hgd HSL3 HO3 s3
        rcases Nat.eq_zero_or_pos r with h0 | h0
        · obtain rfl := h0
          go_wp2_with fail
          go_meet
          exact ⟨l, A, d, rfl, ⟨hll, HR.out.2⟩, HG.out, HSL.out, HS.out.more (by omega), HO.out, hzr⟩
        · obtain ⟨q, rfl⟩ : ∃ q, r = q + 1 := ⟨r - 1, by omega⟩
          clear h0
          have hq1 : q ≤ 31 := by have := HR.out; omega
          have hl0 : (0 : Int) ≤ (l.length : Int) := by omega
          have hlu : IntKind.u8.wrap (l.length : Int) = (l.length : Int) := by unfold IntKind.wrap; simp [IntKind.bits, IntKind.signed]; omega
          have hq2 : IntKind.u8.wrap (97 + (l.length : Int) / 26) = 97 + (l.length : Int) / 26 := by unfold IntKind.wrap; simp [IntKind.bits, IntKind.signed]; omega
          have hq3 : IntKind.u8.wrap (97 + (l.length : Int) % 26) = 97 + (l.length : Int) % 26 := by unfold IntKind.wrap; simp [IntKind.bits, IntKind.signed]; omega
          have hq4 : IntKind.u8.wrap ((l.length : Int) / 26) = (l.length : Int) / 26 := by unfold IntKind.wrap; simp [IntKind.bits, IntKind.signed]; omega
          have hq5 : IntKind.u8.wrap ((l.length : Int) % 26) = (l.length : Int) % 26 := by unfold IntKind.wrap; simp [IntKind.bits, IntKind.signed]; omega
          have hcv := conv_two (97 + (l.length : Int) / 26) (97 + (l.length : Int) % 26) wr
          have hS := HS.out.alloc (.cells #[.int .u8 (97 + (l.length : Int) / 26), .int .u8 (97 + (l.length : Int) % 26)] 5)
          go_wp2_with fail
          refine (l24New_any g _ _ _ hS (by omega) (by rw [strOfNums_size]; simp)).mono ?_
          rintro e w5 ⟨x, rfl, hgx, hsx, s5, o5⟩
          have z5 := o5.size
          simp at z5
          have HO5 := Lib.hid ((HO.out.alloc _).trans o5)
          have HSL5 := Lib.hid (((HSL.out.up _).apart o5 (Or.inr (by omega))).wide (Nat.le_refl _) (hi' := w5.heap.size) (by omega))
          clear o5 hcv hS hlu hq2 hq3 hq4 hq5
          generalize strOfNums [97 + (l.length : Int) / 26, 97 + (l.length : Int) % 26] = nm
          generalize 97 + (l.length : Int) / 26 = c1
          generalize 97 + (l.length : Int) % 26 = c2
          generalize (l.length : Int) / 26 = c3
          generalize (l.length : Int) % 26 = c4
          go_wp2_with (at_builtin; refine wpList_oneF rfl _ _ 46 rfl 48 _ 5 48 Tryz.underlying46 info_clD rfl (by decide) (by decide) HSL5.out (by omega) rfl (cellsCl x) _ rfl rfl rfl (cl_one2 _) (by omega) ?_; intro A10 d10 w10 sl10 b10 z10 f10 g10; have HSL10 := Lib.hid sl10; have HB10 := Lib.hid b10; clear sl10 b10 f10 g10)
          go_roundw
          case rel => exact ⟨l ++ [x], A10, d10, q, ⟨by have := HR.out.1; simp; omega, HSL10.out.nn (by omega)⟩, by go_num, by simp, goodC_snoc HG.out ⟨hgx.1, hsx⟩, by have := HSL10.out; rw [cls_snoc2] at this; simpa using this, (s5.below HB10.out (by omega)).more (by simp; omega), HO5.out.then HB10.out (by omega), by omega⟩
          case measure => simp [intOf]
  case rest => as_aux_lemma =>
    obtain ⟨l, A, d, rfl, hl, hgd, sl, s, o, zc⟩ := hcut
    have HO1 := Lib.hid o
    have HSL1 := Lib.hid sl
    have HG := Lib.hid hgd
    clear o sl hgd HO2 HSL2 HG1
    rcases Nat.eq_zero_or_pos l.length with h0 | h0
    · have hd0 : decide ((0 : Int) < (l.length : Int)) = false := by rw [decide_eq_false_iff_not]; omega
      have hd1 : decide (0 < l.length) = false := by rw [decide_eq_false_iff_not]; omega
      clear h0
      go_wp2
      go_ret
      exact ⟨l, A, d, rfl, hl, HG.out, HSL1.out, s.more (by omega), HO1.out⟩
    · have hd0 : decide ((0 : Int) < (l.length : Int)) = true := by rw [decide_eq_true_iff]; omega
      obtain ⟨go, rfl, hgo1, hgo2, hgo3⟩ := HSL1.out.lt h0
      go_wp2_with fail
      refine (one_any g _ 10 _ s (by omega) ⟨by omega, by omega⟩).mono ?_
      rintro e w2' ⟨b2, rfl, s2, o2⟩
      have z2' := o2.size
      have HO2 := Lib.hid (HO1.out.trans o2)
      have HSL2 := Lib.hid (HSL1.out.apart o2 (Or.inr (by omega)))
      clear o2 s
      rcases b2 with _ | _
      · go_wp2
        go_ret
        exact ⟨l, _, d, rfl, hl, HG.out, HSL2.out.wide (Nat.le_refl _) (by omega), s2.more (by omega), HO2.out⟩
      · go_wp2_with fail
        refine (pick_any g _ l.length _ s2 (by omega) ⟨by omega, by omega⟩).mono ?_
        rintro e w3 ⟨x3, rfl, hx3, s3, o3⟩
        have hx3a := hx3.lt (by omega)
        have hx3b := hx3.1
        clear hx3 s2
        have z3 := o3.size
        have HO3 := Lib.hid (HO2.out.trans o3)
        have HSL3 := Lib.hid (HSL2.out.apart o3 (Or.inr (by omega)))
        clear o3
        obtain ⟨j, rfl⟩ := Int.eq_ofNat_of_zero_le hx3b
        have hj : j < l.length := by omega
        obtain ⟨e0, e1, e2, e3, e4⟩ := cls_get (List.getElem?_eq_getElem hj)
        have q0 := (HSL3.out.cellAt (j * 5) (by omega)).trans e0
        have q1 := (HSL3.out.cellAt (j * 5 + 1) (by omega)).trans e1
        have q2 := (HSL3.out.cellAt (j * 5 + 2) (by omega)).trans e2
        have q3 := (HSL3.out.cellAt (j * 5 + 3) (by omega)).trans e3
        have q4 := (HSL3.out.cellAt (j * 5 + 4) (by omega)).trans e4
        have hj0 : (0 : Int) ≤ j := by omega
        have hfr := (HG.out _ (List.getElem_mem hj)).1.2.2.1
        clear e0 e1 e2 e3 e4
        go_wp2_with fail
        refine (l24Spoil_any g _ go (j * 5) _ _ _ _ _ _ s3 (by omega) (by omega) (by omega) hfr q0 q1 q2 q3 q4 (HSL3.out.frozenAt _) (HSL3.out.frozenAt _) (HSL3.out.frozenAt _) (HSL3.out.frozenAt _) (HSL3.out.frozenAt _)).mono ?_
        rintro e w5 ⟨rfl, w4, s4, o4, hw5⟩
        have z4 := o4.size
        have HO4 := Lib.hid (HO3.out.trans o4)
        have HSL4 := Lib.hid (HSL3.out.apart o4 (Or.inr (by omega)))
        clear q0 q1 q2 q3 q4 o4 s3
        have key : ClsDrawn g k 500 w (.returned (.slice (some ⟨go, 0, none⟩) l.length d)) w5 := by
          rcases hw5 with rfl | ⟨q, z, hz, rfl⟩
          · exact ⟨l, _, d, rfl, hl, HG.out, HSL4.out.wide (Nat.le_refl _) (by omega), s4.more (by omega), HO4.out⟩
          · obtain ⟨l', e1, e2, e3⟩ := cls_set l j hj HG.out q z hz
            refine ⟨l', some ⟨go, 0, none⟩, d, by rw [e1], ⟨by omega, by simp⟩, e2, ?_, (s4.set_ (by simp; omega) _).more (by omega), HO4.out.far (by simp; omega) _⟩
            have := (HSL4.out.set_ (j * 5 + q) z).wide (Nat.le_refl _) (hi' := (w4.setCell ⟨go, j * 5 + q, none⟩ z).heap.size) (by simp [World.setCell]; omega)
            rw [e3] at this; rw [e1]; exact this
        have KEY := Lib.hid key
        clear key hw5 s4
        go_wp2
        go_ret
        exact KEY.out

theorem txtN_small {t : ByteArray} (h : t ∈ ([⟨#[]⟩, ⟨#[110, 111, 110, 101]⟩, ⟨#[98, 97, 110, 107]⟩] : List ByteArray)) : t.size ≤ 1048576 := by
  simp only [List.mem_cons, List.not_mem_nil, or_false] at h
  rcases h with h | h | h <;> subst h <;> decide
set_option maxRecDepth 100000 in
theorem l24Name_any (g k lo hi d : Nat) (A : Option Addr) (l : List Cl) (w : World) (h : Src g k w) (hk : k ≤ 10000000000) (hsl : Sl w lo hi 48 5 A l.length d (cls l)) (hl : l.length ≤ 31 ∧ A ≠ none) (hgl : g < lo) (hhi : hi ≤ w.heap.size) (hgd : GoodC l) :
    Calls Tryz.prog 98 #[.pointer (some ⟨g, 0, none⟩), .slice A l.length d] w fun e w' => ∃ s : ByteArray, e = .returned (.string s) ∧ s.size ≤ 1048576 ∧ Src g (k + 6) w' ∧ Only g (g + 1) w w' := by
  have hgw := h.lt
  have HSL := Lib.hid hsl
  have HG := Lib.hid hgd
  clear hsl hgd
  have key : ∀ (k' : Nat) (v : World) (Q : Ending → World → Prop), Src g k' v → k' ≤ 20000000000 → (∀ s w', s.size ≤ 1048576 → Src g (k' + 2) w' → Only g (g + 1) v w' → Q (.returned (.string s)) w') → Calls Tryz.prog 89 #[.pointer (some ⟨g, 0, none⟩), .slice (some ⟨v.heap.size, 0, none⟩) 3 3] (v.alloc (.cells #[.string ⟨#[]⟩, .string ⟨#[110, 111, 110, 101]⟩, .string ⟨#[98, 97, 110, 107]⟩] 9)) Q := by
    intro k' v Q hs hk' hQ
    refine (text_any g _ v.heap.size 3 9 [⟨#[]⟩, ⟨#[110, 111, 110, 101]⟩, ⟨#[98, 97, 110, 107]⟩] _ (hs.alloc _) (by omega) (Blk.new v _ _) rfl (by omega) (by omega) hs.lt).mono ?_
    rintro e w1 ⟨s, rfl, hs', s1, o1⟩
    exact hQ s w1 (txtN_small hs') s1 (((Only.refl g (g + 1) v).alloc _).trans o1)
  go_enter Tryz.func98, Tryz.ntmps98
  rcases Nat.eq_zero_or_pos l.length with h0 | h0
  · have hd0 : decide ((0 : Int) < (l.length : Int)) = false := by rw [decide_eq_false_iff_not]; omega
    have hd1 : decide (0 < l.length) = false := by rw [decide_eq_false_iff_not]; omega
    have HK := Lib.hid key
    clear key h0
    go_wp2_with fail
    refine HK.out _ _ _ h (by omega) ?_
    intro s w1 hs s1 o1
    have HO := Lib.hid o1
    clear o1
    go_wp2
    go_ret
    exact ⟨s, rfl, hs, s1.more (by omega), HO.out⟩
  · have hd0 : decide ((0 : Int) < (l.length : Int)) = true := by rw [decide_eq_true_iff]; omega
    have HK := Lib.hid key
    clear key
    obtain ⟨go, rfl, hgo1, hgo2, hgo3⟩ := HSL.out.lt h0
    go_wp2_with fail
    refine (one_any g _ 8 _ h (by omega) ⟨by omega, by omega⟩).mono ?_
    rintro e w2 ⟨b2, rfl, s2, o2⟩
    have z2 := o2.size
    have HSL2 := Lib.hid (HSL.out.apart o2 (Or.inr (by omega)))
    have HO2 := Lib.hid o2
    clear o2 h
    rcases b2 with _ | _
    · go_wp2_with fail
      refine (pick_any g _ l.length _ s2 (by omega) ⟨by omega, by omega⟩).mono ?_
      rintro e w3 ⟨x3, rfl, hx3, s3, o3⟩
      have hx3a := hx3.lt (by omega)
      have hx3b := hx3.1
      clear hx3 s2
      have z3 := o3.size
      have HO3 := Lib.hid (HO2.out.trans o3)
      have HSL3 := Lib.hid (HSL2.out.apart o3 (Or.inr (by omega)))
      clear o3
      obtain ⟨j, rfl⟩ := Int.eq_ofNat_of_zero_le hx3b
      have hj : j < l.length := by omega
      obtain ⟨e0, e1, e2, e3, e4⟩ := cls_get (List.getElem?_eq_getElem hj)
      have q0 := (HSL3.out.cellAt (j * 5) (by omega)).trans e0
      have hj0 : (0 : Int) ≤ j := by omega
      have hsm := (HG.out _ (List.getElem_mem hj)).2
      clear e0 e1 e2 e3 e4
      go_wp2
      go_ret
      exact ⟨_, rfl, hsm, s3.more (by omega), HO3.out⟩
    · go_wp2_with fail
      refine HK.out _ _ _ s2 (by omega) ?_
      intro s w1 hs s1 o1
      have HO := Lib.hid (HO2.out.trans o1)
      clear o1
      go_wp2
      go_ret
      exact ⟨s, rfl, hs, s1.more (by omega), HO.out⟩
/-- Clients, as the laws draw them. -/
def ClsOut (w : World) (l : List Cl) (A : Option Addr) (d : Nat) (w' : World) : Prop := (l.length ≤ 31 ∧ A ≠ none) ∧ GoodC l ∧ Sl w' w.heap.size w'.heap.size 48 5 A l.length d (cls l) ∧ Below w.heap.size w w'
end Go.Proofs.YtjmlcobbjpmjpaaGreatDoor
namespace Go.Proofs.YtjmlcobbjpmjpaaGreatDoor
open Go.RowKit

set_option maxRecDepth 100000 in
theorem drawClientOf_any (A : Option Addr) (n c : Nat) (bs : List Int) (w : World) (h : Reads w w.heap.size 1 A n (byts bs)) (hb : ∀ x ∈ bs, Byt x) (hn : n ≤ 9223372036854775807) :
    Calls Tryz.prog 34 #[.slice A n c] w fun e w' => ∃ (l : List Cl) (A' : Option Addr) (d : Nat) (s : ByteArray), e = .returned (.tuple #[.slice A' l.length d, .string s]) ∧ s.size ≤ 1048576 ∧ ClsOut w l A' d w' := by
  have HH := Lib.hid h
  have HB := Lib.hid hb
  clear h hb
  go_enter Tryz.func34, Tryz.ntmps34
  go_wp2_with fail
  refine (l00From_any A n c bs _ HH.out HB.out hn).mono ?_
  rintro e w1 ⟨rfl, s1, b1, z1⟩
  go_wp2_with fail
  refine (l24Bent_any _ 0 _ s1 (by omega)).mono ?_
  rintro e w2 ⟨l, A', d, rfl, hl, hgd, sl, s2, o2⟩
  have z2 := o2.size
  have HG := Lib.hid hgd
  clear hgd
  go_wp2_with fail
  refine (l24Name_any _ _ _ _ _ _ _ _ s2 (by omega) sl hl (by omega) (Nat.le_refl _) HG.out).mono ?_
  rintro e w2b ⟨s, rfl, hss, s2b, o2b⟩
  have z2b := o2b.size
  have HB2 := Lib.hid (b1.trans ((o2.trans o2b).below (Nat.le_refl _) (by omega)))
  have HSL2 := Lib.hid (sl.apart o2b (Or.inr (by omega)))
  clear sl o2 o2b b1
  go_wp2
  refine bodyPost_ret (v := .tuple #[.slice A' l.length d, .string s]) (by simp [results, Tryz.results34, go_sem]) rfl ?_
  exact ⟨l, A', d, s, rfl, hss, hl, HG.out, HSL2.out.wide (by omega) (by omega), HB2.out⟩

set_option maxRecDepth 100000 in
theorem drawExtendContract_any (A : Option Addr) (n c : Nat) (bs : List Int) (w : World) (h : Reads w w.heap.size 1 A n (byts bs)) (hb : ∀ x ∈ bs, Byt x) (hn : n ≤ 9223372036854775807) :
    Calls Tryz.prog 31 #[.slice A n c] w fun e w' => ∃ (l : List Cl) (A' : Option Addr) (d : Nat) (s : ByteArray) (x : Int), e = .returned (.tuple #[.slice A' l.length d, .string s, .int .i64 x]) ∧ s.size ≤ 1048576 ∧ I64 x ∧ ClsOut w l A' d w' := by
  have HH := Lib.hid h
  have HB := Lib.hid hb
  clear h hb
  go_enter Tryz.func31, Tryz.ntmps31
  go_wp2_with fail
  refine (l00From_any A n c bs _ HH.out HB.out hn).mono ?_
  rintro e w1 ⟨rfl, s1, b1, z1⟩
  go_wp2_with fail
  refine (l24Bent_any _ 0 _ s1 (by omega)).mono ?_
  rintro e w2 ⟨l, A', d, rfl, hl, hgd, sl, s2, o2⟩
  have z2 := o2.size
  have HG := Lib.hid hgd
  clear hgd
  go_wp2_with fail
  refine (l24Name_any _ _ _ _ _ _ _ _ s2 (by omega) sl hl (by omega) (Nat.le_refl _) HG.out).mono ?_
  rintro e w2b ⟨s, rfl, hss, s2b, o2b⟩
  have z2b := o2b.size
  have HB2 := Lib.hid (b1.trans ((o2.trans o2b).below (Nat.le_refl _) (by omega)))
  have HSL2 := Lib.hid (sl.apart o2b (Or.inr (by omega)))
  clear sl o2 o2b b1
  go_wp2_with fail
  refine (one_any _ _ 8 _ s2b (by omega) ⟨by omega, by omega⟩).mono ?_
  rintro e w3 ⟨b3, rfl, s3, o3⟩
  have z3 := o3.size
  have HB3 := Lib.hid (HB2.out.trans (o3.below (B := w.heap.size) (by omega) (by omega)))
  have HSL3 := Lib.hid ((HSL2.out.apart o3 (Or.inr (by omega))).wide (Nat.le_refl _) (hi' := w3.heap.size) (by omega))
  clear o3 s2b
  rcases b3 with _ | _
  · skip
    go_wp2_with fail
    refine (pick_any _ _ 90 _ s3 (by omega) ⟨by omega, by omega⟩).mono ?_
    rintro e w4 ⟨x4, rfl, hx4, s4, o4⟩
    have hx4a := hx4.lt (by omega)
    have hx4b := hx4.1
    have z4 := o4.size
    have HB4 := Lib.hid (HB3.out.trans (o4.below (B := w.heap.size) (by omega) (by omega)))
    have HSL4 := Lib.hid ((HSL3.out.apart o4 (Or.inr (by omega))).wide (lo' := w.heap.size) (by omega) (hi' := w4.heap.size) (by omega))
    clear hx4 o4 s3
    go_wp2
    refine bodyPost_ret (v := .tuple #[.slice A' l.length d, .string s, .int .i64 (1 + x4)]) (by simp [results, Tryz.results31, go_sem]) rfl ?_
    exact ⟨l, A', d, s, 1 + x4, rfl, hss, ⟨by omega, by omega⟩, hl, HG.out, HSL4.out, HB4.out⟩
  · skip
    go_wp2_with fail
    refine (among_any _ _ w3.heap.size 5 2 [-1, 0, 1, 20000, 20001] _ (s3.alloc _) (by omega) (Blk.new w3 _ _) rfl (by omega) (by omega) (by omega)).mono ?_
    rintro e w4 ⟨y, rfl, hy, s4, o4⟩
    have hyi : I64 y := by
      simp only [List.mem_cons, List.not_mem_nil, or_false] at hy
      unfold I64
      omega
    have z4 := o4.size
    simp at z4
    have HB4 := Lib.hid ((HB3.out.alloc (by omega) (.cells #[.int .i64 (-1), .int .i64 (0), .int .i64 (1), .int .i64 (20000), .int .i64 (20001)] 2)).trans (o4.below (B := w.heap.size) (by omega) (by simp; omega)))
    have HSL4 := Lib.hid (((HSL3.out.up (.cells #[.int .i64 (-1), .int .i64 (0), .int .i64 (1), .int .i64 (20000), .int .i64 (20001)] 2)).apart o4 (Or.inr (by omega))).wide (lo' := w.heap.size) (by omega) (hi' := w4.heap.size) (by omega))
    clear hy o4 s3
    go_wp2
    refine bodyPost_ret (v := .tuple #[.slice A' l.length d, .string s, .int .i64 y]) (by simp [results, Tryz.results31, go_sem]) rfl ?_
    exact ⟨l, A', d, s, y, rfl, hss, hyi, hl, HG.out, HSL4.out, HB4.out⟩

end Go.Proofs.YtjmlcobbjpmjpaaGreatDoor
