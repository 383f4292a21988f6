/- A whole slice appended to a slice of the call's own. Slices of strings: the law's comparisons, marks and their reading. The names of all clients, in the reference: each new one is put to its place. The clients that owe, by what they owe: the plain law. Cells copied within memory of the call's own; an element put into a row. Bookings: one added: the plain law. Bookings: the codes of what is asked. Bookings: since when a client owes. Bookings: a balance on a day. Bookings: two lists compared. What the law of the balances asks of the answers, without the program. Slices of int64: the law's comparisons, marks and their reading. The laws' helper that compares two lists of texts. The laws' small helpers: whether a code is long, lists of numbers and of texts compared and searched. The source's methods: next, pick, one, among, text; each turns the source alone. The greater of zero and a number. Bookings that are drawn. Bookings, now and then spoilt; what the laws' draws of bookings give. -/
import Derived.Test.YtjmlcobbjpmjpaaGreatDoorMgBalancesAB
import Derived.Test.YtjmlcobbjpmjpaaGreatDoorProg
import Derived.Test.YtjmlcobbjpmjpaaGreatDoorMgBalancesAA
import Derived.Deep.QuietTactic
import Derived.Deep.RegionHeld3
import Derived.BigQuiet
import Derived.Laws.Cover1
import Derived.Test.YtjmlcobbjpmjpaaGreatDoorMgBalancesAC
import Derived.Laws.CopyRow
import Derived.Laws.CopyOwn
import Derived.Lib.AppendZerosOnto
import Derived.Lib.Overlaps
import Derived.Lib.JoinLaws
import Derived.Laws.StructEq
import Derived.Deep.DeepCutAuto
set_option linter.unusedVariables false
set_option linter.unusedSimpArgs false
namespace Go.Proofs.YtjmlcobbjpmjpaaGreatDoor
open Go.RowKit

theorem Sl.nilc {w : World} {lo hi : Nat} {t : TypeId} {size : Nat} {A : Option Addr} {n c : Nat} {xs : List Value} (h : Sl w lo hi t size A n c xs) : A = none → n = 0 ∧ c = 0 := by
  intro hA
  rcases h.form with ⟨_, h1, h2⟩ | ⟨g, cur, h1, _⟩
  · exact ⟨h1, h2⟩
  · rw [hA] at h1; cases h1
theorem add_plain (b off j : Nat) : ((⟨b, off, none⟩ : Addr).add j) = ⟨b, off + j, none⟩ := by unfold Addr.add; split <;> simp_all
theorem wpList_accMany {P : Program} {ops : Array Oper} {rest : List Oper} {o : Oper} {a : Act} {Q : Exit → Act → World → Prop} (hgd : o.guard = none) (s x : Operand) (t : TypeId)
    (ho : o.op = .call { callee := .builtin .append, args := #[s, x], argTypes := #[t, t] })
    (e : TypeId) (zv : Value) (size bytes : Nat) (ht : P.underlying t = some (.slice e)) (hinfo : (P.info? e).map (fun i => (i.zero, i.size, i.bytes)) = some (some zv, size, bytes)) (hzs : zv.cells.size = size) (hsz : 0 < size) (hb : bytes ≤ 1000)
    {b0 z : Nat} {w wr : World} {A : Option Addr} {m c : Nat} {xs : List Value} (h : Acc b0 z e size w wr A m c xs) (hzw : z ≤ w.heap.size) (hs : a.eval s = .slice A m c)
    (b off k d : Nat) (news : List Value) (hx : a.eval x = .slice (some ⟨b, off, none⟩) k d) (hl : news.length = k * size) (hc : ∀ j u, news[j]? = some u → wr.cell? ⟨b, off + j, none⟩ = some u) (h1 : ∀ u ∈ news, u.oneCell' = true) (hm : m + k < 100000000)
    (K : ∀ A' c' w1, Acc b0 z e size w w1 A' (m + k) c' (xs ++ news) → wpList P ops Q rest (a.put o.dst (.slice A' (m + k) c')) w1) : wpList P ops Q (o :: rest) a wr := by
  obtain ⟨i, hi, hz, hsize, hby⟩ := info_parts hinfo
  refine wpList_append_own_at _ hgd s x t ho 0 e i zv size bytes ht hi hz hsize hby hzs hsz _ _ _ hs h.own ⟨b, off, none⟩ k d news hx hl (fun j u hu => by rw [add_plain]; exact hc j u hu) h1 (by unfold maxLen; omega) ?_ (Nat.zero_le _) ?_
  · calc (m + k) * bytes ≤ 100000000 * 1000 := Nat.mul_le_mul (by omega) hb
      _ ≤ 140737488355328 := by decide
  · intro v' w' hown hgrow _ hat
    have hzr : z ≤ wr.heap.size := Nat.le_trans hzw h.size
    have hrest : ∀ q, q < z → q ≠ b0 → w'.heap[q]? = w.heap[q]? := fun q hq hne => by
      rw [hgrow.block q (by omega) (fun ee => ?_)]
      · exact h.block q hq hne
      · cases A with
        | none => simp [Value.ownBlock] at ee
        | some ad =>
          simp [Value.ownBlock] at ee
          rcases h.at_ ad rfl with e1 | e1 <;> omega
    have hsz' : w.heap.size ≤ w'.heap.size := Nat.le_trans h.size hgrow.size
    rcases hown.2 with ⟨hv, hn⟩ | ⟨g, cap, cur, hv, hb', hgg, hrest'⟩
    · subst hv
      rw [show (Value.slice none 0 0) = .slice none (m + k) 0 from by rw [hn]]
      exact K _ _ _ ⟨by rw [hn] at hown ⊢; exact hown, (fun ad had => by cases had), by have := hgrow.os; rw [this]; exact h.os, by have := hgrow.tape; rw [this]; exact h.tape, by have := hgrow.output; rw [this]; exact h.output, hsz', hrest⟩
    · have hat' : g = b0 ∨ z ≤ g := by
        subst hv
        rcases hat with e1 | e1
        · cases A with
          | none => simp [Value.ownBlock] at e1
          | some ad =>
            simp [Value.ownBlock] at e1
            rcases h.at_ ad rfl with e2 | e2 <;> omega
        · simp [Value.ownBlock] at e1
          omega
      subst hv
      exact K _ _ _ ⟨hown, fun ad had => by injection had with had; subst had; exact hat', by have := hgrow.os; rw [this]; exact h.os, by have := hgrow.tape; rw [this]; exact h.tape, by have := hgrow.output; rw [this]; exact h.output, hsz', hrest⟩
end Go.Proofs.YtjmlcobbjpmjpaaGreatDoor
namespace Go.Proofs.YtjmlcobbjpmjpaaGreatDoor
open Go.RowKit

theorem str_at {w : World} {B n k : Nat} {A : Option Addr} {l : List ByteArray} (h : Reads w B 1 A n (strs l)) (hk : k < n) :
    ∃ (x : ByteArray) (b off : Nat), l[k]? = some x ∧ A = some ⟨b, off, none⟩ ∧ b < B ∧ w.cell? ⟨b, off + k, none⟩ = some (.string x) := by
  obtain ⟨b, off, rfl, hb, hcell⟩ := h.at_ (by omega)
  have hl := h.1
  rw [strs_length] at hl
  have he : l[k]? = some l[k] := List.getElem?_eq_getElem (by omega)
  exact ⟨_, b, off, he, rfl, hb, hcell _ _ (strs_get he)⟩
theorem strs_len {w : World} {B n : Nat} {A : Option Addr} {l : List ByteArray} (h : Reads w B 1 A n (strs l)) : l.length = n := by
  have := h.1
  rw [strs_length] at this
  omega
def tmarks (n : Nat) : List ByteArray := (List.range n).map fun (j : Nat) => mkText (1 + j)
theorem tmarks_length (n : Nat) : (tmarks n).length = n := by simp [tmarks]
theorem tmarks_get {n i : Nat} (h : i < n) : (tmarks n)[i]? = some (mkText (1 + i)) := by simp [tmarks, h]

end Go.Proofs.YtjmlcobbjpmjpaaGreatDoor
namespace Go.Proofs.YtjmlcobbjpmjpaaGreatDoor
open Go.RowKit

theorem strs_one (xs : List ByteArray) : ∀ u ∈ strs xs, u.oneCell' = true := by
  intro u hu
  obtain ⟨b, _, rfl⟩ := List.mem_map.1 hu
  rfl
theorem ss_ins {xs : List ByteArray} {x : ByteArray} {j : Nat} (h : SS xs) (hj : j ≤ xs.length) (h1 : ∀ (i : Nat) (y : ByteArray), i < j → xs[i]? = some y → sless y x = true) (h2 : ∀ (i : Nat) (y : ByteArray), j ≤ i → xs[i]? = some y → sless x y = true) : SS (xs.take j ++ [x] ++ xs.drop j) := by
  have hp : (xs.take j ++ xs.drop j).Pairwise fun a b => sless a b = true := by rw [List.take_append_drop]; exact h
  have hp' := List.pairwise_append.1 hp
  unfold SS
  rw [List.append_assoc, List.pairwise_append]
  refine ⟨hp'.1, ?_, fun a ha b hb => ?_⟩
  · rw [List.singleton_append, List.pairwise_cons]
    refine ⟨fun b hb => ?_, hp'.2.1⟩
    obtain ⟨i, e⟩ := List.mem_iff_getElem?.1 hb
    rw [List.getElem?_drop] at e
    exact h2 _ b (by omega) e
  · obtain ⟨i, hi⟩ := List.mem_iff_getElem?.1 ha
    rw [List.getElem?_take] at hi
    have hax : sless a x = true := by
      split at hi
      · rename_i hlt; exact h1 i a hlt hi
      · cases hi
    rcases List.mem_append.1 hb with hb | hb
    · rw [List.mem_singleton] at hb; subst hb; exact hax
    · exact hp'.2.2 a ha b hb
def hasB (xs : List ByteArray) (t : ByteArray) : Bool := xs.any fun y => y.toList == t.toList
theorem hasB_mem {xs : List ByteArray} {t : ByteArray} : hasB xs t = true ↔ t ∈ xs := by
  unfold hasB
  rw [List.any_eq_true]
  constructor
  · rintro ⟨y, hy, he⟩
    have := (beq_bl y t).1 he
    subst this; exact hy
  · intro h; exact ⟨t, h, (beq_bl t t).2 rfl⟩
theorem l21Has_any (A : Option Addr) (n c B : Nat) (l : List ByteArray) (x : ByteArray) (w : World) (h : Reads w B 1 A n (strs l)) (hn : n ≤ 1048576) :
    Calls Tryz.prog 146 #[.slice A n c, .string x] w fun e w' => e = .returned (.bool (hasB l x)) ∧ w = w' := by
  have HL := Lib.hid (strs_len h)
  go_enter Tryz.func146, Tryz.ntmps146
  go_wp2
  go_loop [5] (fun i => ∃ k : Nat, k ≤ n ∧ i = .int .i64 k ∧ AllTo (fun y : ByteArray => !(y.toList == x.toList)) l k) (fun i => n - (intOf i).toNat)
  case atStart => exact ⟨0, Nat.zero_le _, rfl, AllTo.zero _ _⟩
  case round =>
    obtain ⟨k, hk, rfl, hall⟩ := hrel
    have HA := Lib.hid hall
    clear hall
    by_cases hlt : k < n
    · obtain ⟨y, b, off, he, rfl, hb, c0⟩ := str_at h hlt
      have HE := Lib.hid he
      clear he
      rcases hy : (y.toList == x.toList) with _ | _
      · have HY := Lib.hid hy
        go_wp2
        go_round
        case rel => exact ⟨k + 1, by omega, by go_num, HA.out.step HE.out (by rw [HY.out]; rfl)⟩
        case measure => simp [intOf]; omega
      · have HY := Lib.hid (show hasB l x = true from any_of (p := fun z : ByteArray => z.toList == x.toList) HE.out hy)
        go_wp2
        go_ret
        exact ⟨ret_bool HY.out.symm, rfl⟩
    · obtain rfl : k = n := by omega
      have HY := Lib.hid (show hasB l x = false from any_none (p := fun z : ByteArray => z.toList == x.toList) HA.out HL.out)
      go_wp2
      go_ret
      exact ⟨ret_bool HY.out.symm, rfl⟩

set_option maxHeartbeats 4000000 in
set_option maxRecDepth 100000 in
theorem l25Names_any (A : Option Addr) (n c B : Nat) (l : List Bk) (w : World) (h : Reads w B 3 A n (bks l)) (hB : B ≤ w.heap.size) (hn : n ≤ 1048576) :
    Calls Tryz.prog 81 #[.slice A n c] w fun e w' => ∃ A' m d, e = .returned (.slice A' m d) ∧ Sl w' w.heap.size w'.heap.size 9 1 A' m d (strs (namesB l)) ∧ Below w.heap.size w w' := by
  have hl := Lib.hid (bks_len h)
  have HSL0 := Lib.hid (Sl.made w 9 1)
  go_enter Tryz.func81, Tryz.ntmps81
  go_wp2
  go_loopw [3, 4] (fun o i wr => ∃ (k g d : Nat) (xs : List ByteArray), k ≤ n ∧ i = .int .i64 (k : Int) ∧ o = .slice (some ⟨g, 0, none⟩) xs.length d ∧ SS xs ∧ (∀ t, t ∈ xs ↔ t ∈ (l.take k).map fun b : Bk => b.client) ∧ xs.length ≤ k ∧ Sl wr w.heap.size wr.heap.size 9 1 (some ⟨g, 0, none⟩) xs.length d (strs xs) ∧ Below w.heap.size w wr) (fun _ i _ => n - (intOf i).toNat)
  case atStart => exact ⟨0, w.heap.size, 0, [], Nat.zero_le _, rfl, rfl, List.Pairwise.nil, fun t => by simp, Nat.le_refl _, HSL0.out.wide (Nat.le_refl _) (hi' := (w.alloc (.cells #[] 9)).heap.size) (by simp), (Below.refl _ _).alloc (Nat.le_refl _) _⟩
  case round =>
    obtain ⟨k, g, d, xs, hk, rfl, rfl, hss, hmem, hxk, hsl, hbel⟩ := hrel
    have HSL := Lib.hid hsl
    have HB := Lib.hid hbel
    have HSS := Lib.hid hss
    have HM := Lib.hid hmem
    have zr := hbel.size
    have hxd : xs.length ≤ d := by
      rcases hsl.form with ⟨h1, _⟩ | ⟨g', cur, _, _, _, _, h2, _⟩
      · cases h1
      · exact h2
    have hg : g < wr.heap.size := hsl.2 _ rfl
    have hg0 : w.heap.size ≤ g := by
      rcases hsl.form with ⟨h1, _⟩ | ⟨g', cur, h1, h2, _⟩
      · cases h1
      · injection h1 with h1; injection h1 with h1; subst h1; exact h2
    clear hsl hbel hss hmem
    by_cases hlt : k < n
    · obtain ⟨x, b, off, he, rfl, hb, c0, c1, c2⟩ := bk_at (h.on hB HB.out) hlt
      have hx1 : ∀ t, (t ∈ (l.take (k + 1)).map fun b : Bk => b.client) ↔ ((t ∈ (l.take k).map fun b : Bk => b.client) ∨ t = x.client) := fun t => by rw [List.take_add_one, he]; simp
      have HX := Lib.hid hx1
      clear he hx1 c0 c2
      have R := HSL.out.reads (Nat.le_refl _)
      rcases hh : hasB xs x.client with _ | _
      · have hnot : ¬ x.client ∈ xs := fun hm => by rw [hasB_mem.2 hm] at hh; cases hh
        have HH := Lib.hid hh
        have HNOT := Lib.hid hnot
        clear hh hnot
        generalize hxc : x.client = t at *
        clear hxc
        go_wp2_with fail
        refine (l21Has_any _ _ _ _ xs t _ R (by omega)).mono ?_
        rw [HH.out]
        rintro e w' ⟨rfl, rfl⟩
        go_wp2
        rename World => wo
        go_loopw [5] (fun p wr => ∃ j : Nat, j ≤ xs.length ∧ p = .int .i64 (j : Int) ∧ (∀ (i : Nat) (y : ByteArray), j ≤ i → xs[i]? = some y → sless t y = true) ∧ Below wo.heap.size wo wr) (fun p _ => (intOf p).toNat)
        case atStart =>
          have hst : ∀ (i : Nat) (y : ByteArray), xs.length ≤ i → xs[i]? = some y → sless t y = true := fun i y hi hy => by
            rw [List.getElem?_eq_none hi] at hy; cases hy
          exact ⟨xs.length, Nat.le_refl _, rfl, hst, Below.refl _ _⟩
        case round =>
          obtain ⟨j, hj, rfl, hhi, hbel2⟩ := hrel
          have HHI := Lib.hid hhi
          have HB2 := Lib.hid hbel2
          have R2 := R.on (Nat.le_refl _) hbel2
          have c1q := cell_on hbel2 c1
          clear hhi hbel2
          rcases Nat.eq_zero_or_pos j with h0 | h0
          · obtain rfl := h0
            have hp1 : decide ((0 : Int) < ((0 : Nat) : Int)) = false := rfl
            have hplace : (∀ (i : Nat) (y : ByteArray), i < 0 → xs[i]? = some y → sless y t = true) ∧ (∀ (i : Nat) (y : ByteArray), 0 ≤ i → xs[i]? = some y → sless t y = true) := ⟨fun i y hi => by omega, HHI.out⟩
            clear HHI
            go_wp2_with fail
            go_quiet (fail)
            rename_i nq
            obtain ⟨W, hW⟩ : ∃ W, wr.drewN nq = W := ⟨_, rfl⟩
            have hbelW : Below wo.heap.size wo W := by rw [← hW]; exact below_drewN HB2.out nq
            rw [hW]
            clear hW HB2
            have zW := hbelW.size
            have HBW := Lib.hid (bnext HB.out hbelW (by omega))
            have HSLW := Lib.hid (HSL.out.on hbelW)
            have c1W := cell_on hbelW c1
            have HNEW := Lib.hid (ss_ins HSS.out hj hplace.1 hplace.2)
            have hcell := fun (V : World) (hV : V.heap[g]? = W.heap[g]?) (i : Nat) (u : Value) (hu : (strs xs)[i]? = some u) => show V.cell? ⟨g, i, none⟩ = some u from by
              have hi : i < xs.length := by have := (List.getElem?_eq_some_iff.1 hu).1; rwa [strs_length] at this
              rw [World.cell?_of_block hV, HSLW.out.cellAt i (by omega)]
              exact hu
            have HCELL := Lib.hid hcell
            clear hcell hplace hbelW c1q R2
            have acc0 := Lib.hid (Acc.made W 9 1)
            have htk : strs (xs.take 0) = (strs xs).take 0 := by simp [strs, List.map_take]
            have hdr : strs (xs.drop 0) = (strs xs).drop 0 := by simp [strs, List.map_drop]
            have HDR := Lib.hid hdr
            have hc1 := Lib.hid (show ∀ i u, (strs (xs.take 0))[i]? = some u → (W.alloc (.cells #[] 9)).cell? ⟨g, 0 + i, none⟩ = some u from fun i u hu => by
              rw [Nat.zero_add]
              refine HCELL.out _ (Below.heap_alloc W _ g (by omega)) i u ?_
              rw [htk, List.getElem?_take] at hu
              split at hu
              · exact hu
              · cases hu)
            clear htk hdr
            have hj0 : (0 : Int) ≤ 0 := by omega
            have hj1 : (0 : Int) ≤ d := by omega
            have hj2 : (0 : Int) ≤ xs.length := by omega
            have hgW : g < W.heap.size := by omega
            have hbW : b < W.heap.size := by omega
            have hge : ¬ g = W.heap.size := by omega
            have HLEN := Lib.hid (show (xs.take 0 ++ [t] ++ xs.drop 0).length = 0 + 1 + (xs.length - 0) by simp; omega)
            have HSTR := Lib.hid (show strs (xs.take 0 ++ [t] ++ xs.drop 0) = strs (xs.take 0) ++ [.string t] ++ strs (xs.drop 0) by simp [strs])
            have HMEM := Lib.hid (show ∀ u, u ∈ xs.take 0 ++ [t] ++ xs.drop 0 ↔ u ∈ (l.take (k + 1)).map fun b : Bk => b.client from fun u => by
              rw [HX.out, ← HM.out]
              have e : u ∈ xs ↔ u ∈ xs.take 0 ∨ u ∈ xs.drop 0 := by rw [← List.mem_append, List.take_append_drop]
              rw [e]
              simp only [List.mem_append, List.mem_singleton]
              constructor
              · rintro ((h | h) | h)
                · exact .inl (.inl h)
                · exact .inr h
                · exact .inl (.inr h)
              · rintro ((h | h) | h)
                · exact .inl (.inl h)
                · exact .inr h
                · exact .inl (.inr h))
            go_wp2_with (first
              | (at_builtin; refine wpList_accMany rfl _ _ 36 rfl 9 _ 1 16 Tryz.underlying36 info_str rfl (by decide) (by decide) acc0.out (Nat.le_refl _) rfl g 0 0 d (strs (xs.take 0)) rfl (by rw [strs_length, List.length_take]; omega) hc1.out (strs_one _) (by omega) ?_; intro A3 d3 w3 hacc3; rw [Nat.zero_add]; rw [Nat.zero_add, List.nil_append] at hacc3; have HA3 := Lib.hid hacc3; have c13 := (hacc3.cell (p := ⟨b, off + k * 3 + 1, none⟩) hbW (by simp only; omega)).trans c1W; clear hacc3 acc0 hc1)
              | (at_builtin; refine wpList_acc rfl _ _ 36 rfl 9 _ 1 16 Tryz.underlying36 info_str rfl (by decide) (by decide) HA3.out (Nat.le_refl _) rfl [.string t] rfl rfl (fun u hu => by simp at hu; subst hu; rfl) (by omega) ?_; intro A4 d4 w4 hacc4; have HA4 := Lib.hid hacc4; clear hacc4 c13)
              | (at_builtin; refine wpList_accMany rfl _ _ 36 rfl 9 _ 1 16 Tryz.underlying36 info_str rfl (by decide) (by decide) HA4.out (Nat.le_refl _) rfl g 0 xs.length _ (strs (xs.drop 0)) rfl (by rw [strs_length, List.length_drop]; omega) (fun i u hu => (by rw [HDR.out, List.getElem?_drop] at hu; exact HCELL.out _ (HA4.out.block g hgW hge) _ u hu)) (strs_one _) (by omega) ?_; intro A5 d5 w5 hacc5; have sl5 := hacc5.sl (lo := w.heap.size) (by omega) (by omega); have b5 := hacc5.below (B := w.heap.size) (by omega) (by omega); obtain ⟨g5, rfl, _, _, _⟩ := sl5.lt (by omega); have HS5 := Lib.hid sl5; have HB5 := Lib.hid b5; clear sl5 b5 hacc5))
            go_roundw
            case rel => exact ⟨k + 1, g5, d5, _, by omega, by go_num, (by first | (rw [HLEN.out]; done) | (rw [HLEN.out]; rfl) | (rw [HLEN.out]; congr 1; omega)), HNEW.out, HMEM.out, by rw [HLEN.out]; omega, (by rw [HLEN.out, HSTR.out]; first | exact HS5.out | (have h9 := HS5.out; simpa [Nat.add_comm] using h9)), HBW.out.trans HB5.out⟩
            case measure => simp [intOf]; omega
          · obtain ⟨q, rfl⟩ : ∃ q, j = q + 1 := ⟨j - 1, by omega⟩
            clear h0
            obtain ⟨y, b', off', hy, hA, hb', cy⟩ := str_at R2 (show q < xs.length by omega)
            injection hA with hA; injection hA with hA hA2; subst hA; subst hA2
            rw [Nat.zero_add] at cy
            have hne : (y.toList == t.toList) = false := by
              rcases hc : (y.toList == t.toList) with _ | _
              · rfl
              · have := (beq_bl y t).1 hc
                subst this
                exact absurd (List.mem_of_getElem? hy) HNOT.out
            have hqw : IntKind.i64.wrap (q : Int) = q := by rw [IntKind.wrap_i64]; omega
            have hq0 : (0 : Int) ≤ q := by omega
            have hq1 : (q : Int) < xs.length := by omega
            have hq2 : decide ((0 : Int) < (q : Int) + 1) = true := by rw [decide_eq_true_iff]; omega
            have HY := Lib.hid hy
            clear hy
            rcases hs : Op.bytesLess y.toList t.toList with _ | _
            · have hty : sless t y = true := by
                rw [sless_bl]
                have h1 : ¬ bl y < bl t := fun h2 => by
                  have := (sless_bl y t).2 h2
                  unfold sless at this; rw [hs] at this; cases this
                have h2 : bl y ≠ bl t := fun e => by
                  rw [(beq_bl y t).2 (bl_inj e)] at hne; cases hne
                exact Std.lt_of_le_of_ne (Std.not_lt.1 h1) (fun e => h2 e.symm)
              have HTY := Lib.hid hty
              clear hty
              go_wp2_with fail
              go_quiet (fail)
              clear hqw hq2 hs hne
              go_wp2
              go_roundw
              case rel => exact ⟨q, by omega, by go_num, fun i z hi hz => by
                by_cases e : i = q
                · subst e; rw [HY.out] at hz; injection hz with hz; subst hz; exact HTY.out
                · exact HHI.out i z (by omega) hz, below_drewN HB2.out _⟩
              case measure => simp [intOf]
            · have hlo1 : sless y t = true := hs
              have hplace : (∀ (i : Nat) (z : ByteArray), i < q + 1 → xs[i]? = some z → sless z t = true) ∧ (∀ (i : Nat) (z : ByteArray), q + 1 ≤ i → xs[i]? = some z → sless t z = true) := ⟨fun i z hi hz => by
                by_cases e : i = q
                · subst e; rw [HY.out] at hz; injection hz with hz; subst hz; exact hlo1
                · have hz2 := (List.getElem?_eq_some_iff.1 hz)
                  have hy2 := (List.getElem?_eq_some_iff.1 HY.out)
                  have := List.pairwise_iff_getElem.1 HSS.out i q hz2.1 hy2.1 (by omega)
                  rw [hz2.2, hy2.2] at this
                  exact sless_trans this hlo1, HHI.out⟩
              clear HHI hlo1
              go_wp2_with fail
              go_quiet (fail)
              clear hqw hq2 hs hne
              rename_i nq
              obtain ⟨W, hW⟩ : ∃ W, wr.drewN nq = W := ⟨_, rfl⟩
              have hbelW : Below wo.heap.size wo W := by rw [← hW]; exact below_drewN HB2.out nq
              rw [hW]
              clear hW HB2
              have zW := hbelW.size
              have HBW := Lib.hid (bnext HB.out hbelW (by omega))
              have HSLW := Lib.hid (HSL.out.on hbelW)
              have c1W := cell_on hbelW c1
              have HNEW := Lib.hid (ss_ins HSS.out hj hplace.1 hplace.2)
              have hcell := fun (V : World) (hV : V.heap[g]? = W.heap[g]?) (i : Nat) (u : Value) (hu : (strs xs)[i]? = some u) => show V.cell? ⟨g, i, none⟩ = some u from by
                have hi : i < xs.length := by have := (List.getElem?_eq_some_iff.1 hu).1; rwa [strs_length] at this
                rw [World.cell?_of_block hV, HSLW.out.cellAt i (by omega)]
                exact hu
              have HCELL := Lib.hid hcell
              clear hcell hplace hbelW c1q R2
              have acc0 := Lib.hid (Acc.made W 9 1)
              have htk : strs (xs.take (q + 1)) = (strs xs).take (q + 1) := by simp [strs, List.map_take]
              have hdr : strs (xs.drop (q + 1)) = (strs xs).drop (q + 1) := by simp [strs, List.map_drop]
              have HDR := Lib.hid hdr
              have hc1 := Lib.hid (show ∀ i u, (strs (xs.take (q + 1)))[i]? = some u → (W.alloc (.cells #[] 9)).cell? ⟨g, 0 + i, none⟩ = some u from fun i u hu => by
                rw [Nat.zero_add]
                refine HCELL.out _ (Below.heap_alloc W _ g (by omega)) i u ?_
                rw [htk, List.getElem?_take] at hu
                split at hu
                · exact hu
                · cases hu)
              clear htk hdr
              have hj0 : (0 : Int) ≤ (q + 1) := by omega
              have hj1 : ((q + 1) : Int) ≤ d := by omega
              have hj2 : ((q + 1) : Int) ≤ xs.length := by omega
              have hgW : g < W.heap.size := by omega
              have hbW : b < W.heap.size := by omega
              have hge : ¬ g = W.heap.size := by omega
              have HLEN := Lib.hid (show (xs.take (q + 1) ++ [t] ++ xs.drop (q + 1)).length = (q + 1) + 1 + (xs.length - (q + 1)) by simp; omega)
              have HSTR := Lib.hid (show strs (xs.take (q + 1) ++ [t] ++ xs.drop (q + 1)) = strs (xs.take (q + 1)) ++ [.string t] ++ strs (xs.drop (q + 1)) by simp [strs])
              have HMEM := Lib.hid (show ∀ u, u ∈ xs.take (q + 1) ++ [t] ++ xs.drop (q + 1) ↔ u ∈ (l.take (k + 1)).map fun b : Bk => b.client from fun u => by
                rw [HX.out, ← HM.out]
                have e : u ∈ xs ↔ u ∈ xs.take (q + 1) ∨ u ∈ xs.drop (q + 1) := by rw [← List.mem_append, List.take_append_drop]
                rw [e]
                simp only [List.mem_append, List.mem_singleton]
                constructor
                · rintro ((h | h) | h)
                  · exact .inl (.inl h)
                  · exact .inr h
                  · exact .inl (.inr h)
                · rintro ((h | h) | h)
                  · exact .inl (.inl h)
                  · exact .inr h
                  · exact .inl (.inr h))
              by_cases hdj : d = q + 1
              · obtain rfl := hdj
                go_wp2_with (first
                  | (at_builtin; refine wpList_accMany rfl _ _ 36 rfl 9 _ 1 16 Tryz.underlying36 info_str rfl (by decide) (by decide) acc0.out (Nat.le_refl _) rfl g 0 (q + 1) (q + 1) (strs (xs.take (q + 1))) rfl (by rw [strs_length, List.length_take]; omega) hc1.out (strs_one _) (by omega) ?_; intro A3 d3 w3 hacc3; rw [Nat.zero_add]; rw [Nat.zero_add, List.nil_append] at hacc3; have HA3 := Lib.hid hacc3; have c13 := (hacc3.cell (p := ⟨b, off + k * 3 + 1, none⟩) hbW (by simp only; omega)).trans c1W; clear hacc3 acc0 hc1)
                  | (at_builtin; refine wpList_acc rfl _ _ 36 rfl 9 _ 1 16 Tryz.underlying36 info_str rfl (by decide) (by decide) HA3.out (Nat.le_refl _) rfl [.string t] rfl rfl (fun u hu => by simp at hu; subst hu; rfl) (by omega) ?_; intro A4 d4 w4 hacc4; have HA4 := Lib.hid hacc4; clear hacc4 c13)
                  | (at_builtin; refine wpList_accMany rfl _ _ 36 rfl 9 _ 1 16 Tryz.underlying36 info_str rfl (by decide) (by decide) HA4.out (Nat.le_refl _) rfl g 0 0 _ [] rfl rfl (fun i u hu => (by simp at hu)) (fun u hu => (by simp at hu)) (by omega) ?_; intro A5 d5 w5 hacc5; have sl5 := hacc5.sl (lo := w.heap.size) (by omega) (by omega); have b5 := hacc5.below (B := w.heap.size) (by omega) (by omega); obtain ⟨g5, rfl, _, _, _⟩ := sl5.lt (by omega); have HS5 := Lib.hid sl5; have HB5 := Lib.hid b5; clear sl5 b5 hacc5))
                go_roundw
                case rel => exact ⟨k + 1, g5, d5, _, by omega, by go_num, (by first | (rw [HLEN.out]; done) | (rw [HLEN.out]; rfl) | (rw [HLEN.out]; congr 1; omega)), HNEW.out, HMEM.out, by rw [HLEN.out]; omega, (by have h9 := HS5.out; have e1 : strs (xs.drop (q + 1)) = [] := (by rw [HDR.out]; exact List.drop_eq_nil_of_le (by rw [strs_length]; omega)); have e2 : q + 1 + 1 + (xs.length - (q + 1)) = q + 1 + 1 := (by omega); rw [HLEN.out, HSTR.out, e1, List.append_nil, e2]; simpa using h9), HBW.out.trans HB5.out⟩
                case measure => simp [intOf]; omega
              · skip
                go_wp2_with (first
                  | (at_builtin; refine wpList_accMany rfl _ _ 36 rfl 9 _ 1 16 Tryz.underlying36 info_str rfl (by decide) (by decide) acc0.out (Nat.le_refl _) rfl g 0 (q + 1) d (strs (xs.take (q + 1))) rfl (by rw [strs_length, List.length_take]; omega) hc1.out (strs_one _) (by omega) ?_; intro A3 d3 w3 hacc3; rw [Nat.zero_add]; rw [Nat.zero_add, List.nil_append] at hacc3; have HA3 := Lib.hid hacc3; have c13 := (hacc3.cell (p := ⟨b, off + k * 3 + 1, none⟩) hbW (by simp only; omega)).trans c1W; clear hacc3 acc0 hc1)
                  | (at_builtin; refine wpList_acc rfl _ _ 36 rfl 9 _ 1 16 Tryz.underlying36 info_str rfl (by decide) (by decide) HA3.out (Nat.le_refl _) rfl [.string t] rfl rfl (fun u hu => by simp at hu; subst hu; rfl) (by omega) ?_; intro A4 d4 w4 hacc4; have HA4 := Lib.hid hacc4; clear hacc4 c13)
                  | (at_builtin; refine wpList_accMany rfl _ _ 36 rfl 9 _ 1 16 Tryz.underlying36 info_str rfl (by decide) (by decide) HA4.out (Nat.le_refl _) rfl g (q + 1) (xs.length - (q + 1)) _ (strs (xs.drop (q + 1))) rfl (by rw [strs_length, List.length_drop]; omega) (fun i u hu => (by rw [HDR.out, List.getElem?_drop] at hu; exact HCELL.out _ (HA4.out.block g hgW hge) _ u hu)) (strs_one _) (by omega) ?_; intro A5 d5 w5 hacc5; have sl5 := hacc5.sl (lo := w.heap.size) (by omega) (by omega); have b5 := hacc5.below (B := w.heap.size) (by omega) (by omega); obtain ⟨g5, rfl, _, _, _⟩ := sl5.lt (by omega); have HS5 := Lib.hid sl5; have HB5 := Lib.hid b5; clear sl5 b5 hacc5))
                go_roundw
                case rel => exact ⟨k + 1, g5, d5, _, by omega, by go_num, (by first | (rw [HLEN.out]; done) | (rw [HLEN.out]; rfl) | (rw [HLEN.out]; congr 1; omega)), HNEW.out, HMEM.out, by rw [HLEN.out]; omega, (by rw [HLEN.out, HSTR.out]; first | exact HS5.out | (have h9 := HS5.out; simpa [Nat.add_comm] using h9)), HBW.out.trans HB5.out⟩
                case measure => simp [intOf]; omega
      · have HH := Lib.hid hh
        have hin := hasB_mem.1 hh
        have HIN := Lib.hid hin
        clear hh hin
        go_wp2_with fail
        refine (l21Has_any _ _ _ _ xs x.client _ R (by omega)).mono ?_
        rw [HH.out]
        rintro e w' ⟨rfl, rfl⟩
        have hmm : ∀ t, t ∈ xs ↔ t ∈ (l.take (k + 1)).map fun b : Bk => b.client := fun t => by
          rw [HX.out, HM.out]
          constructor
          · exact Or.inl
          · rintro (h | h)
            · exact h
            · subst h; exact (HM.out _).1 HIN.out
        have HMM := Lib.hid hmm
        clear hmm
        go_wp2
        go_roundw
        case rel => exact ⟨k + 1, g, d, xs, by omega, by go_num, rfl, HSS.out, HMM.out, by omega, HSL.out, HB.out⟩
        case measure => simp [intOf]; omega
    · obtain rfl : k = n := by omega
      have hall : l.take k = l := List.take_of_length_le (by have := hl.out; omega)
      have hxs : xs = namesB l := by
        have hm := HM.out
        rw [hall] at hm
        exact uniqB_of HSS.out hm
      go_wp2
      go_ret
      exact ⟨_, _, _, rfl, by rw [← hxs]; exact HSL.out, HB.out⟩
end Go.Proofs.YtjmlcobbjpmjpaaGreatDoor
namespace Go.Proofs.YtjmlcobbjpmjpaaGreatDoor
open Go.RowKit Stb

/-- One client stands ahead of another: it owes more, or as much and its name comes first. -/
def balR (l : List Bk) (d : Int) (x y : ByteArray) : Prop := bal l y d < bal l x d ∨ (bal l x d = bal l y d ∧ sless x y = true)
theorem balR_irr (l : List Bk) (d : Int) (x : ByteArray) : ¬ balR l d x x := fun h => by
  rcases h with h | h
  · omega
  · exact sless_irr x h.2
theorem balR_trans {l : List Bk} {d : Int} {x y z : ByteArray} (h : balR l d x y) (k : balR l d y z) : balR l d x z := by
  unfold balR at *
  rcases h with h | h
  · rcases k with k | k
    · left; omega
    · left; omega
  · rcases k with k | k
    · left; omega
    · right; exact ⟨by omega, sless_trans h.2 k.2⟩
theorem pw_unique {R : ByteArray → ByteArray → Prop} (irr : ∀ x, ¬ R x x) (tr : ∀ x y z, R x y → R y z → R x z) : ∀ xs ys : List ByteArray, xs.Pairwise R → ys.Pairwise R → (∀ t, t ∈ xs ↔ t ∈ ys) → xs = ys
  | [], [], _, _, _ => rfl
  | [], y :: ys, _, _, h => by have := (h y).2 (by simp); simp at this
  | x :: xs, [], _, _, h => by have := (h x).1 (by simp); simp at this
  | x :: xs, y :: ys, hx, hy, h => by
    have hx' := List.pairwise_cons.1 hx
    have hy' := List.pairwise_cons.1 hy
    have e : x = y := by
      rcases List.mem_cons.1 ((h x).1 (by simp)) with h1 | h1
      · exact h1
      · rcases List.mem_cons.1 ((h y).2 (by simp)) with h2 | h2
        · exact h2.symm
        · exact absurd (tr _ _ _ (hx'.1 y h2) (hy'.1 x h1)) (irr x)
    subst e
    rw [pw_unique irr tr xs ys hx'.2 hy'.2 (fun t => ?_)]
    constructor
    · intro ht
      rcases List.mem_cons.1 ((h t).1 (by simp [ht])) with h1 | h1
      · subst h1; exact absurd (hx'.1 t ht) (irr t)
      · exact h1
    · intro ht
      rcases List.mem_cons.1 ((h t).2 (by simp [ht])) with h1 | h1
      · subst h1; exact absurd (hy'.1 t ht) (irr t)
      · exact h1
theorem pw_ins {R : ByteArray → ByteArray → Prop} {xs : List ByteArray} {t : ByteArray} {j : Nat} (h : xs.Pairwise R) (tr : ∀ x y z, R x y → R y z → R x z) (hlo : ∀ (i : Nat) (y : ByteArray), i < j → xs[i]? = some y → R y t) (hhi : ∀ (i : Nat) (y : ByteArray), j ≤ i → xs[i]? = some y → R t y) : (xs.take j ++ [t] ++ xs.drop j).Pairwise R := by
  have e : xs.take j ++ xs.drop j = xs := List.take_append_drop j xs
  have h' := h
  rw [← e, List.pairwise_append] at h'
  obtain ⟨p1, p2, p3⟩ := h'
  have lo : ∀ y ∈ xs.take j, R y t := fun y hy => by
    obtain ⟨i, hi, rfl⟩ := List.mem_iff_getElem.1 hy
    have hi2 : i < j ∧ i < xs.length := by simp at hi; omega
    rw [List.getElem_take]
    exact hlo i _ hi2.1 (List.getElem?_eq_getElem hi2.2)
  have up : ∀ y ∈ xs.drop j, R t y := fun y hy => by
    obtain ⟨i, hi, rfl⟩ := List.mem_iff_getElem.1 hy
    have hi2 : j + i < xs.length := by simp at hi; omega
    rw [List.getElem_drop]
    exact hhi (j + i) _ (by omega) (List.getElem?_eq_getElem hi2)
  rw [List.pairwise_append, List.pairwise_append]
  refine ⟨⟨p1, by simp, fun a ha b hb => ?_⟩, p2, fun a ha b hb => ?_⟩
  · rw [List.mem_singleton] at hb; subst hb; exact lo a ha
  · rcases List.mem_append.1 ha with ha | ha
    · exact tr _ _ _ (lo a ha) (up b hb)
    · rw [List.mem_singleton] at ha; subst ha; exact up b hb
/-- The order at the beginning, the comparison, the order wanted. -/
theorem bal_ord (l : List Bk) (d : Int) : Ord3 (fun x y => decide (cmpI (bal l y d) (bal l x d) < 0)) (balR l d) (fun x y => sless x y = true) := by
  constructor
  · intro x y h
    exact .inl (cmpI_neg.1 (of_decide_eq_true h))
  · intro x y h k
    have h1 : ¬ bal l x d < bal l y d := fun q => by
      have := of_decide_eq_false h
      exact this (cmpI_neg.2 q)
    by_cases e : bal l y d < bal l x d
    · exact .inl e
    · exact .inr ⟨by omega, k⟩
  · intro x y z h k
    have k1 := cmpI_neg.1 (of_decide_eq_true k)
    apply decide_eq_true
    apply cmpI_neg.2
    rcases h with h | h <;> omega
  · intro x y z h k
    have k1 := cmpI_neg.1 (of_decide_eq_true h)
    apply decide_eq_true
    apply cmpI_neg.2
    rcases k with h | h <;> omega
def leB (l : List Bk) (d : Int) (x y : ByteArray) : Bool := decide (bal l y d < bal l x d) || (decide (bal l x d = bal l y d) && decide (bl x ≤ bl y))
/-- Who owes. -/
def owes (l : List Bk) (d : Int) (t : ByteArray) : Bool := decide (0 < bal l t d)
def debtF (l : List Bk) (d : Int) : List ByteArray := ((namesB l).filter (owes l d)).mergeSort (leB l d)
theorem debt_mem (l : List Bk) (d : Int) (t : ByteArray) : t ∈ debtF l d ↔ t ∈ (namesB l).filter (owes l d) := (List.mergeSort_perm _ _).mem_iff
theorem names_ss (l : List Bk) : SS (namesB l) := (uniqB_facts _).1
theorem owes_ss (l : List Bk) (d : Int) : SS ((namesB l).filter (owes l d)) := (names_ss l).filter _
theorem debt_pw (l : List Bk) (d : Int) : (debtF l d).Pairwise (balR l d) := by
  have hp := List.pairwise_mergeSort (le := leB l d) (fun a b c h1 h2 => by
    simp only [leB, Bool.or_eq_true, Bool.and_eq_true, decide_eq_true_eq] at *
    rcases h1 with h1 | h1
    · rcases h2 with h2 | h2
      · left; omega
      · left; omega
    · rcases h2 with h2 | h2
      · left; omega
      · right; exact ⟨by omega, List.le_trans h1.2 h2.2⟩) (fun a b => by
    simp only [leB, Bool.or_eq_true, Bool.and_eq_true, decide_eq_true_eq]
    rcases Int.lt_trichotomy (bal l a d) (bal l b d) with h | h | h
    · right; left; exact h
    · rcases (Std.le_total : bl a ≤ bl b ∨ bl b ≤ bl a) with k | k
      · left; right; exact ⟨h, k⟩
      · right; right; exact ⟨h.symm, k⟩
    · left; left; exact h) ((namesB l).filter (owes l d))
  have hn : (debtF l d).Nodup := by
    have h1 : ((namesB l).filter (owes l d)).Nodup := (owes_ss l d).imp fun {a b} h e => by subst e; exact sless_irr a h
    exact (List.mergeSort_perm _ _).nodup_iff.2 h1
  have hb := List.pairwise_and_iff.2 ⟨hp, hn⟩
  refine hb.imp fun {a b} h => ?_
  obtain ⟨h1, h2⟩ := h
  simp only [leB, Bool.or_eq_true, Bool.and_eq_true, decide_eq_true_eq] at h1
  rcases h1 with h1 | h1
  · exact .inl h1
  · refine .inr ⟨h1.1, (sless_bl a b).2 (Std.lt_of_le_of_ne h1.2 fun e => h2 (bl_inj e))⟩
theorem debt_unique {l : List Bk} {d : Int} {ys : List ByteArray} (h1 : ys.Pairwise (balR l d)) (h2 : ∀ t, t ∈ ys ↔ t ∈ (namesB l).filter (owes l d)) : ys = debtF l d :=
  pw_unique (balR_irr l d) (fun _ _ _ => balR_trans) _ _ h1 (debt_pw l d) (fun t => by rw [h2, debt_mem])
theorem debt_len (l : List Bk) (d : Int) : (debtF l d).length = ((namesB l).filter (owes l d)).length := (List.mergeSort_perm _ _).length_eq
theorem row_of (xs : List ByteArray) : row (fun k => xs.getD k ⟨#[]⟩) xs.length = xs := by
  apply List.ext_getElem
  · simp [row_length]
  · intro i h1 h2
    simp [row, h2]
theorem srt_of {S : ByteArray → ByteArray → Prop} {xs : List ByteArray} (h : xs.Pairwise S) : Srt S (fun k => xs.getD k ⟨#[]⟩) 0 xs.length := by
  intro i j _ h2 h3
  have := List.pairwise_iff_getElem.1 h i j (by omega) h3 h2
  simpa [List.getD_eq_getElem?_getD, List.getElem?_eq_getElem (show i < xs.length by omega), List.getElem?_eq_getElem h3] using this
theorem pw_of {R : ByteArray → ByteArray → Prop} {f : Nat → ByteArray} {n : Nat} (h : Srt R f 0 n) : (row f n).Pairwise R := by
  rw [List.pairwise_iff_getElem]
  intro i j h1 h2 h3
  rw [row_length] at h1 h2
  simpa [row] using h i j (Nat.zero_le _) h3 h2
/-- What the stable sort leaves of those who owe. -/
theorem sorted_debt {l : List Bk} {d : Int} {f' : Nat → ByteArray} {n : Nat} (hn : n = ((namesB l).filter (owes l d)).length) (ht : Turned (fun k => ((namesB l).filter (owes l d)).getD k ⟨#[]⟩) f' 0 n n) (hs : Srt (balR l d) f' 0 n) : row f' n = debtF l d := by
  refine debt_unique (pw_of hs) fun t => ?_
  rw [ht.perm.mem_iff, hn, row_of]
def debtorsN (l : List Bk) (d : Int) : List ByteArray × Int := if okBks l = true then (if inR d 0 20000 = true then (debtF l d, 0) else ([], 2)) else ([], 1)
theorem debtorsN_bad {l : List Bk} {d : Int} (h : okBks l = false) : debtorsN l d = ([], 1) := by simp [debtorsN, h]
theorem debtorsN_day {l : List Bk} {d : Int} (h : okBks l = true) (k : inR d 0 20000 = false) : debtorsN l d = ([], 2) := by simp [debtorsN, h, k]
theorem debtorsN_ok {l : List Bk} {d : Int} (h : okBks l = true) (k : inR d 0 20000 = true) : debtorsN l d = (debtF l d, 0) := by simp [debtorsN, h, k]
theorem names_len (l : List Bk) : (namesB l).length ≤ l.length := by
  have := (uniqB_facts (l.map fun b : Bk => b.client)).2.2
  simpa [namesB] using this
theorem debtorsN_len (l : List Bk) (d : Int) : (debtorsN l d).1.length ≤ l.length := by
  unfold debtorsN
  split
  · split
    · have h1 := debt_len l d
      have h2 := List.length_filter_le (owes l d) (namesB l)
      have h3 := names_len l
      simp only
      omega
    · simp
  · simp
theorem cntDebtorsOn_len {l : List Bk} {d : Int} {m : Nat} (h : (strs (debtorsN l d).1).length = m * 1) : m ≤ 1048576 := by
  rw [strs_length] at h
  have h1 : (debtorsN l d).1.length ≤ 80 := by
    rcases hok : okBks l with _ | _
    · rw [debtorsN_bad hok]; simp
    · have := debtorsN_len l d; have := okBks_len hok; omega
  omega
end Go.Proofs.YtjmlcobbjpmjpaaGreatDoor
namespace Go.Proofs.YtjmlcobbjpmjpaaGreatDoor
open Go.RowKit

theorem run_copy_blk {P : Program} (w : World) (dT sT ty elem : TypeId) (size g o dLen dCap : Nat) (a : Addr) (sLen sCap : Nat) (cur : Array Value) (t : TypeId) (cs : List Value)
    (hu : P.underlying dT = some (.slice elem)) (hs : (P.info? elem).map (·.size) = some size)
    (hg : w.heap[g]? = some (.cells cur t (0, 0))) (hn : cs.length = Nat.min sLen dLen * size)
    (hsrc : ∀ j v, cs[j]? = some v → w.cell? (a.add j) = some v) (hfit : o + cs.length ≤ cur.size) (h1 : ∀ v ∈ cs, v.oneCell' = true) :
    (Builtin.copy_ #[dT, sT] ty #[.slice (some ⟨g, o, none⟩) dLen dCap, .slice (some a) sLen sCap]).run P w =
      .ok (goInt (Nat.min sLen dLen)) (w.setRow g (cur.toList.take o ++ cs ++ cur.toList.drop (o + cs.length)).toArray) := by
  have hl := run_loadCells_list (P := P) w a cs hsrc
  have hst := run_storeCells_at P g o t cs 0 cur w hg (by simpa using hfit) h1
  cases hq : P.info? elem with
  | none => simp [hq] at hs
  | some i =>
    have hi : i.size = size := by simpa [hq] using hs
    simp [Builtin.copy_, run_underlying hu, Builtin.lenOf, Builtin.firstCells, sizeOf, typeInfo, hq, hi, ← hn, hl, hst]

/-- Block g is the row; all else is as it was. -/
structure Laid (g : Nat) (t : TypeId) (row : List Value) (w w' : World) : Prop where
  blk : Blk w' g t row.toArray
  os : w'.os = w.os
  tape : w'.tape = w.tape
  output : w'.output = w.output
  size : w'.heap.size = w.heap.size
  block : ∀ k, k ≠ g → w'.heap[k]? = w.heap[k]?
theorem Laid.refl {g : Nat} {t : TypeId} {row : List Value} {w : World} (h : Blk w g t row.toArray) : Laid g t row w w := ⟨h, rfl, rfl, rfl, rfl, fun _ _ => rfl⟩
theorem Laid.trans {g : Nat} {t : TypeId} {r1 r2 : List Value} {w w1 w2 : World} (h : Laid g t r1 w w1) (k : Laid g t r2 w1 w2) : Laid g t r2 w w2 :=
  ⟨k.blk, k.os.trans h.os, k.tape.trans h.tape, k.output.trans h.output, k.size.trans h.size, fun i hi => (k.block i hi).trans (h.block i hi)⟩
theorem Laid.drewN {g : Nat} {t : TypeId} {row : List Value} {w w1 : World} {n : Nat} (h : Laid g t row (w.drewN n) w1) : Laid g t row w w1 := ⟨h.blk, h.os, h.tape, h.output, h.size, h.block⟩
theorem Laid.drew {g : Nat} {t : TypeId} {row : List Value} {w w1 : World} (h : Laid g t row w.drew w1) : Laid g t row w w1 := ⟨h.blk, h.os, h.tape, h.output, h.size, h.block⟩
theorem Laid.only {g lo hi : Nat} {t : TypeId} {row : List Value} {w w' : World} (h : Laid g t row w w') (h1 : lo ≤ g) (h2 : g < hi) : Only lo hi w w' :=
  ⟨h.os, h.tape, h.output, by rw [h.size]; exact Nat.le_refl _, fun k _ hd => h.block k (by omega)⟩
theorem laid_setRow {g : Nat} {t : TypeId} {w : World} {cur : Array Value} (hg : w.heap[g]? = some (.cells cur t (0, 0))) (row : List Value) : Laid g t row w (w.setRow g row.toArray) :=
  ⟨setRow_heap w g cur row.toArray t (0, 0) hg, rfl, rfl, rfl, by simp [World.setRow], fun k hk => setRow_other w g k _ hk⟩

theorem wpList_copyBlk {P : Program} {w : World} {ops : Array Oper} {rest : List Oper} {o : Oper} {a : Act} {Q : Exit → Act → World → Prop} (hgd : o.guard = none) (d s : Operand) (dT sT : TypeId)
    (ho : o.op = .call { callee := .builtin .copy, args := #[d, s], argTypes := #[dT, sT] }) (elem : TypeId) (size : Nat) (hu : P.underlying dT = some (.slice elem)) (hsz : (P.info? elem).map (·.size) = some size)
    (g off dLen dCap : Nat) (ad : Addr) (sLen sCap : Nat) (hd : a.eval d = .slice (some ⟨g, off, none⟩) dLen dCap) (hs : a.eval s = .slice (some ad) sLen sCap)
    (o5 : Nat) (ho5 : off = o5) (cur : List Value) (t : TypeId) (hg : Blk w g t cur.toArray) (cs : List Value) (hn : cs.length = Nat.min sLen dLen * size)
    (hsrc : ∀ j v, cs[j]? = some v → w.cell? (ad.add j) = some v) (hfit : off + cs.length ≤ cur.length) (h1 : ∀ v ∈ cs, v.oneCell' = true)
    (h : ∀ w', Laid g t (splice cur o5 cs) w w' → wpList P ops Q rest (a.put o.dst (goInt (Nat.min sLen dLen))) w') : wpList P ops Q (o :: rest) a w := by
  subst ho5
  refine wpList_plain hgd fun K hK => ?_
  have hrun := run_copy_blk (P := P) w dT sT o.type elem size g off dLen dCap ad sLen sCap cur.toArray t cs hu hsz hg hn hsrc (by simpa using hfit) h1
  unfold Oper.wp
  simp [execOp, ho, resolve, invoke, builtin, hd, hs, hrun, Result.andThen]
  have := h _ (laid_setRow hg (splice cur off cs))
  exact hK _ _ (by simpa [splice] using this)

theorem step_copyBlk {P : Program} {ops : Array Oper} {o : Oper} {a : Act} {w : World} {K : Act → World → Prop} {Q : Exit → Act → World → Prop} {E : Prop} (hgd : o.guard = none) (d s : Operand) (dT sT : TypeId)
    (ho : o.op = .call { callee := .builtin .copy, args := #[d, s], argTypes := #[dT, sT] }) (elem : TypeId) (size : Nat) (hu : P.underlying dT = some (.slice elem)) (hsz : (P.info? elem).map (·.size) = some size)
    (g off dLen dCap : Nat) (ad : Addr) (sLen sCap : Nat) (hd : a.eval d = .slice (some ⟨g, off, none⟩) dLen dCap) (hs : a.eval s = .slice (some ad) sLen sCap)
    (o5 : Nat) (ho5 : off = o5) (cur : List Value) (t : TypeId) (hg : Blk w g t cur.toArray) (cs : List Value) (hn : cs.length = Nat.min sLen dLen * size)
    (hsrc : ∀ j v, cs[j]? = some v → w.cell? (ad.add j) = some v) (hfit : off + cs.length ≤ cur.length) (h1 : ∀ v ∈ cs, v.oneCell' = true)
    (h : ∀ w', Laid g t (splice cur o5 cs) w w' → K (a.put o.dst (goInt (Nat.min sLen dLen))) w') :
    if Region.wanted o (yielded ops a.tmps) = true then Oper.wp P o a w K Q else E := by
  subst ho5
  have hw : Region.wanted o (yielded ops a.tmps) = true := by simp [Region.wanted, hgd]
  rw [if_pos hw]
  have hrun := run_copy_blk (P := P) w dT sT o.type elem size g off dLen dCap ad sLen sCap cur.toArray t cs hu hsz hg hn hsrc (by simpa using hfit) h1
  unfold Oper.wp
  simp [execOp, ho, resolve, invoke, builtin, hd, hs, hrun, Result.andThen]
  have h9 := h _ (laid_setRow hg (splice cur off cs))
  simp only [splice] at h9
  exact h9

theorem splice_shift {α : Type} {cur xs vs : List α} {p q N : Nat} (hx : cur.take N = xs) (hp : p ≤ N) (hq : vs.length = q) (hN : N + q ≤ cur.length) :
    (splice (splice cur (p + q) (xs.drop p)) p vs).take (N + q) = xs.take p ++ vs ++ xs.drop p := by
  have hl : xs.length = N := by rw [← hx]; simp; omega
  have h1 : (cur.take (p + q) ++ (xs.drop p ++ cur.drop (p + q + (xs.drop p).length))).take p = xs.take p := by
    rw [List.take_append_of_le_length (by simp; omega), List.take_take, ← hx, List.take_take]
    congr 1; omega
  have h2 : (cur.take (p + q) ++ (xs.drop p ++ cur.drop (p + q + (xs.drop p).length))).drop (p + vs.length) = xs.drop p ++ cur.drop (p + q + (xs.drop p).length) := by
    have : (cur.take (p + q)).length = p + vs.length := by simp; omega
    rw [← this, List.drop_left]
  unfold splice
  rw [h1, h2, ← List.append_assoc, ← List.append_assoc]
  have : (xs.take p ++ vs ++ xs.drop p).length = N + q := by simp; omega
  rw [← this, List.take_left]
theorem splice_grow {α : Type} {row xs vs : List α} {p q N : Nat} (hx : row.take p = xs.take p) (hl : xs.length = N) (hp : p ≤ N) (hq : vs.length = q) (hN : N + q ≤ row.length) :
    (splice (splice row p vs) (p + q) (xs.drop p)).take (N + q) = xs.take p ++ vs ++ xs.drop p := by
  have h1 : (row.take p ++ (vs ++ row.drop (p + vs.length))).take (p + q) = xs.take p ++ vs := by
    have : (row.take p ++ vs).length = p + q := by simp; omega
    rw [← List.append_assoc, ← this, List.take_left, hx]
  unfold splice
  rw [h1, ← List.append_assoc]
  have : (xs.take p ++ vs ++ xs.drop p).length = N + q := by simp; omega
  rw [← this, List.take_left]
end Go.Proofs.YtjmlcobbjpmjpaaGreatDoor
namespace Go.Proofs.YtjmlcobbjpmjpaaGreatDoor
open Go.RowKit

theorem info_bk : (Tryz.prog.info? 26).map (fun i => (i.zero, i.size, i.bytes)) = some (some (.agg #[.int .i64 0, .string ⟨#[]⟩, .int .i64 0]), 3, 32) := by kernel_rfl
theorem bks_one (l : List Bk) : ∀ u ∈ bks l, u.oneCell' = true := by
  intro u hu
  simp only [bks, List.mem_flatMap, cellsBk, List.mem_cons, List.not_mem_nil, or_false] at hu
  obtain ⟨x, _, h⟩ := hu
  rcases h with rfl | rfl | rfl <;> rfl
theorem bk1 (x : Bk) : ∀ u ∈ cellsBk x, u.oneCell' = true := fun u hu => bks_one [x] u (by simpa [bks] using hu)
def lateB (d : Int) (y : Bk) : Bool := decide (d < y.day)
def cutBk (l : List Bk) (d : Int) : Nat := l.findIdx (lateB d)
theorem idx_cut (l : List Bk) (d : Int) : (idxI (lateB d) l = -1 ∧ cutBk l d = l.length) ∨ (idxI (lateB d) l = (cutBk l d : Nat) ∧ cutBk l d < l.length) := by
  unfold idxI cutBk
  rcases h : l.findIdx? (lateB d) with _ | i
  · left; exact ⟨rfl, List.findIdx?_eq_none_iff_findIdx_eq.1 h⟩
  · right
    obtain ⟨h1, h2⟩ := List.findIdx?_eq_some_iff_findIdx_eq.1 h
    exact ⟨by simp [h2], by omega⟩
theorem cutBk_mk {l : List Bk} {d : Int} {k : Nat} (hok : okBks l = true) (hk : k ≤ l.length) (hhi : ∀ (j : Nat) (y : Bk), k ≤ j → l[j]? = some y → d < y.day) (hlo : k = 0 ∨ ∃ y, l[k - 1]? = some y ∧ y.day ≤ d) : cutBk l d = k := by
  have hle : cutBk l d ≤ l.length := List.findIdx_le_length
  apply Nat.le_antisymm
  · rcases Nat.lt_or_ge k (cutBk l d) with hlt | hge
    · have hi : k < l.length := by omega
      have h1 := List.not_of_lt_findIdx hlt
      have h2 := hhi k l[k] (Nat.le_refl _) (List.getElem?_eq_getElem hi)
      simp [lateB] at h1
      omega
    · exact hge
  · rcases Nat.lt_or_ge (cutBk l d) k with hlt | hge
    · have hc : cutBk l d < l.length := by omega
      have h1 : lateB d l[cutBk l d] = true := List.findIdx_getElem (w := hc)
      have h1' : d < l[cutBk l d].day := by simpa [lateB] using h1
      rcases hlo with h0 | ⟨z, hz, hs⟩
      · omega
      · obtain ⟨q, hq⟩ : ∃ q, k - 1 = cutBk l d + q := ⟨k - 1 - cutBk l d, by omega⟩
        rw [hq] at hz
        have := okBks_sorted hok (List.getElem?_eq_getElem hc) q z hz
        omega
    · exact hge
def insBk {α : Type} (l : List α) (k : Nat) (x : α) : List α := l.take k ++ x :: l.drop k
theorem insBk_length {α : Type} (l : List α) (k : Nat) (x : α) : (insBk l k x).length = l.length + 1 := by
  simp [insBk]
  omega
theorem bks_app (a b : List Bk) : bks (a ++ b) = bks a ++ bks b := by simp [bks]
theorem bks_take (l : List Bk) (k : Nat) : (bks l).take (k * 3) = bks (l.take k) := by
  have h1 : bks l = bks (l.take k) ++ bks (l.drop k) := by rw [← bks_app, List.take_append_drop]
  rcases Nat.lt_or_ge l.length k with h | h
  · rw [List.take_of_length_le (show l.length ≤ k by omega), List.take_of_length_le (show (bks l).length ≤ k * 3 by rw [bks_length]; omega)]
  · have h2 : (bks (l.take k)).length = k * 3 := by rw [bks_length, List.length_take, Nat.min_eq_left h]
    rw [h1, ← h2, List.take_left]
theorem bks_drop (l : List Bk) (k : Nat) : (bks l).drop (k * 3) = bks (l.drop k) := by
  have h1 : bks l = bks (l.take k) ++ bks (l.drop k) := by rw [← bks_app, List.take_append_drop]
  rcases Nat.lt_or_ge l.length k with h | h
  · rw [List.drop_eq_nil_of_le (show l.length ≤ k by omega), List.drop_eq_nil_of_le (show (bks l).length ≤ k * 3 by rw [bks_length]; omega)]
    rfl
  · have h2 : (bks (l.take k)).length = k * 3 := by rw [bks_length, List.length_take, Nat.min_eq_left h]
    rw [h1, ← h2, List.drop_left]
theorem bks_ins (l : List Bk) (k : Nat) (x : Bk) : bks (insBk l k x) = (bks l).take (k * 3) ++ cellsBk x ++ (bks l).drop (k * 3) := by
  rw [insBk, bks_take, bks_drop, bks_app, List.append_assoc]
  rfl
def bookF (l : List Bk) (x : Bk) : List Bk × Int :=
  if okBks l = true then (if okBk x = true then (if 80 ≤ l.length then ([], 5) else (insBk l (cutBk l x.day) x, 0)) else ([], 2)) else ([], 1)
theorem bookF_bad {l : List Bk} {x : Bk} (h : okBks l = false) : bookF l x = ([], 1) := by simp [bookF, h]
theorem bookF_range {l : List Bk} {x : Bk} (h : okBks l = true) (hx : okBk x = false) : bookF l x = ([], 2) := by simp [bookF, h, hx]
theorem bookF_full {l : List Bk} {x : Bk} (h : okBks l = true) (hx : okBk x = true) (hl : 80 ≤ l.length) : bookF l x = ([], 5) := by simp [bookF, h, hx, hl]
theorem bookF_ok {l : List Bk} {x : Bk} (h : okBks l = true) (hx : okBk x = true) (hl : ¬ 80 ≤ l.length) {i : Nat} (hi : cutBk l x.day = i) : bookF l x = (insBk l i x, 0) := by
  unfold bookF
  rw [if_pos h, if_pos hx, if_neg hl, hi]
theorem bookF_len (l : List Bk) (x : Bk) : (bookF l x).1.length ≤ 81 := by
  unfold bookF
  split
  · split
    · split
      · simp
      · simp only [insBk_length]; omega
    · simp
  · simp
theorem cntBookClient_len {l : List Bk} {x : Bk} {m : Nat} (h : (bks (bookF l x).1).length = m * 3) : m ≤ 1048576 := by
  rw [bks_length] at h
  have := bookF_len l x
  omega
end Go.Proofs.YtjmlcobbjpmjpaaGreatDoor
namespace Go.Proofs.YtjmlcobbjpmjpaaGreatDoor
open Go.RowKit

/-- The code of what is asked of a list: 1 the list, 2 the name or a day, 0 right. -/
def codeI (l : List Bk) (s : ByteArray) (d e : Int) : Int := if okBks l = true then (if (isName s && (inR d 0 20000 && inR e d 20000)) = true then 0 else 2) else 1
def codeS (l : List Bk) (s : ByteArray) (d : Int) : Int := if okBks l = true then (if (isName s && inR d 0 20000) = true then 0 else 2) else 1
theorem codeI_self (l : List Bk) (s : ByteArray) (d : Int) : codeI l s d d = codeS l s d := by
  have : (inR d 0 20000 && inR d d 20000) = inR d 0 20000 := by
    rcases h : inR d 0 20000 with _ | _
    · rfl
    · have := inR_true.1 h
      simp only [Bool.true_and]
      exact inR_true.2 (by omega)
  simp only [codeI, codeS, this]
theorem codeS_zero {l : List Bk} {s : ByteArray} {d : Int} (h : codeS l s d = 0) : okBks l = true ∧ isName s = true ∧ 0 ≤ d ∧ d ≤ 20000 := by
  unfold codeS at h
  split at h
  · rename_i h1
    split at h
    · rename_i h2
      simp only [Bool.and_eq_true] at h2
      exact ⟨h1, h2.1, (inR_true.1 h2.2).1, (inR_true.1 h2.2).2⟩
    · cases h
  · cases h
theorem codeI_zero {l : List Bk} {s : ByteArray} {d e : Int} (h : codeI l s d e = 0) : okBks l = true ∧ isName s = true ∧ (0 ≤ d ∧ d ≤ 20000) ∧ d ≤ e ∧ e ≤ 20000 := by
  unfold codeI at h
  split at h
  · rename_i h1
    split at h
    · rename_i h2
      simp only [Bool.and_eq_true] at h2
      exact ⟨h1, h2.1, inR_true.1 h2.2.1, inR_true.1 h2.2.2⟩
    · cases h
  · cases h

theorem l25Code_any (A : Option Addr) (n c : Nat) (l : List Bk) (s : ByteArray) (d : Int) (B : Nat) (w : World) (h : Reads w B 3 A n (bks l)) (hB : B ≤ w.heap.size) (hn : n ≤ 1048576) (hsm : ∀ x ∈ l, x.small) (hs : s.size ≤ 9223372036854775807) :
    Calls Tryz.prog 72 #[.slice A n c, .string s, .int .i64 d] w fun e w' => e = .returned (.int .i64 (codeS l s d)) ∧ Below w.heap.size w w' := by
  rcases h1 : okBks l with _ | _
  · have HO := Lib.hid (show codeS l s d = 1 by simp [codeS, h1])
    go_enter Tryz.func72, Tryz.ntmps72
    go_wp2_with (first | (go_at_call 67; refine (l25Ok_any A n c B l _ h hn hB hsm).mono ?_; rintro e w1 ⟨rfl, b1⟩) | (go_at_call 138; refine (specIsName_any _ _ hs).mono ?_; rintro e w2 ⟨rfl, rfl⟩) | (go_at_call 80; refine (l25Day_any _ _).mono ?_; rintro e w2 ⟨rfl, rfl⟩) | (go_at_call 102; refine (l00In_any _ _ _ _).mono ?_; rintro e w2 ⟨rfl, rfl⟩))
    go_ret
    exact ⟨ret_int HO.out.symm, b1⟩
  · rcases h2 : isName s with _ | _
    · have HO := Lib.hid (show codeS l s d = 2 by simp [codeS, h1, h2])
      go_enter Tryz.func72, Tryz.ntmps72
      go_wp2_with (first | (go_at_call 67; refine (l25Ok_any A n c B l _ h hn hB hsm).mono ?_; rintro e w1 ⟨rfl, b1⟩) | (go_at_call 138; refine (specIsName_any _ _ hs).mono ?_; rintro e w2 ⟨rfl, rfl⟩) | (go_at_call 80; refine (l25Day_any _ _).mono ?_; rintro e w2 ⟨rfl, rfl⟩) | (go_at_call 102; refine (l00In_any _ _ _ _).mono ?_; rintro e w2 ⟨rfl, rfl⟩))
      go_ret
      exact ⟨ret_int HO.out.symm, b1⟩
    · rcases h3 : inR d 0 20000 with _ | _
      · have HO := Lib.hid (show codeS l s d = 2 by simp [codeS, h1, h2, h3])
        go_enter Tryz.func72, Tryz.ntmps72
        go_wp2_with (first | (go_at_call 67; refine (l25Ok_any A n c B l _ h hn hB hsm).mono ?_; rintro e w1 ⟨rfl, b1⟩) | (go_at_call 138; refine (specIsName_any _ _ hs).mono ?_; rintro e w2 ⟨rfl, rfl⟩) | (go_at_call 80; refine (l25Day_any _ _).mono ?_; rintro e w2 ⟨rfl, rfl⟩) | (go_at_call 102; refine (l00In_any _ _ _ _).mono ?_; rintro e w2 ⟨rfl, rfl⟩))
        go_ret
        exact ⟨ret_int HO.out.symm, b1⟩
      · have HO := Lib.hid (show codeS l s d = 0 by simp [codeS, h1, h2, h3])
        go_enter Tryz.func72, Tryz.ntmps72
        go_wp2_with (first | (go_at_call 67; refine (l25Ok_any A n c B l _ h hn hB hsm).mono ?_; rintro e w1 ⟨rfl, b1⟩) | (go_at_call 138; refine (specIsName_any _ _ hs).mono ?_; rintro e w2 ⟨rfl, rfl⟩) | (go_at_call 80; refine (l25Day_any _ _).mono ?_; rintro e w2 ⟨rfl, rfl⟩) | (go_at_call 102; refine (l00In_any _ _ _ _).mono ?_; rintro e w2 ⟨rfl, rfl⟩))
        go_ret
        exact ⟨ret_int HO.out.symm, b1⟩

theorem bookingsCode_any (A : Option Addr) (n c : Nat) (l : List Bk) (s : ByteArray) (d d2 : Int) (B : Nat) (w : World) (h : Reads w B 3 A n (bks l)) (hB : B ≤ w.heap.size) (hn : n ≤ 1048576) (hsm : ∀ x ∈ l, x.small) (hs : s.size ≤ 9223372036854775807) :
    Calls Tryz.prog 70 #[.slice A n c, .string s, .int .i64 d, .int .i64 d2] w fun e w' => e = .returned (.int .i64 (codeI l s d d2)) ∧ Below w.heap.size w w' := by
  rcases h1 : okBks l with _ | _
  · have HO := Lib.hid (show codeI l s d d2 = 1 by simp [codeI, h1])
    go_enter Tryz.func70, Tryz.ntmps70
    go_wp2_with (first | (go_at_call 26; refine (implValidBookings_any A n c l B _ h hB hn hsm).mono ?_; rintro e w1 ⟨rfl, b1⟩) | (go_at_call 135; refine (implIsName_any _ _ hs).mono ?_; rintro e w2 ⟨rfl, rfl⟩) | (go_at_call 134; refine (isBookDay_any _ _).mono ?_; rintro e w2 ⟨rfl, rfl⟩) | (go_at_call 101; refine (within_any _ _ _ _).mono ?_; rintro e w2 ⟨rfl, rfl⟩))
    go_ret
    exact ⟨ret_int HO.out.symm, b1⟩
  · rcases h2 : isName s with _ | _
    · have HO := Lib.hid (show codeI l s d d2 = 2 by simp [codeI, h1, h2])
      go_enter Tryz.func70, Tryz.ntmps70
      go_wp2_with (first | (go_at_call 26; refine (implValidBookings_any A n c l B _ h hB hn hsm).mono ?_; rintro e w1 ⟨rfl, b1⟩) | (go_at_call 135; refine (implIsName_any _ _ hs).mono ?_; rintro e w2 ⟨rfl, rfl⟩) | (go_at_call 134; refine (isBookDay_any _ _).mono ?_; rintro e w2 ⟨rfl, rfl⟩) | (go_at_call 101; refine (within_any _ _ _ _).mono ?_; rintro e w2 ⟨rfl, rfl⟩))
      go_ret
      exact ⟨ret_int HO.out.symm, b1⟩
    · rcases h3 : inR d 0 20000 with _ | _
      · have HO := Lib.hid (show codeI l s d d2 = 2 by simp [codeI, h1, h2, h3])
        go_enter Tryz.func70, Tryz.ntmps70
        go_wp2_with (first | (go_at_call 26; refine (implValidBookings_any A n c l B _ h hB hn hsm).mono ?_; rintro e w1 ⟨rfl, b1⟩) | (go_at_call 135; refine (implIsName_any _ _ hs).mono ?_; rintro e w2 ⟨rfl, rfl⟩) | (go_at_call 134; refine (isBookDay_any _ _).mono ?_; rintro e w2 ⟨rfl, rfl⟩) | (go_at_call 101; refine (within_any _ _ _ _).mono ?_; rintro e w2 ⟨rfl, rfl⟩))
        go_ret
        exact ⟨ret_int HO.out.symm, b1⟩
      · rcases h4 : inR d2 d 20000 with _ | _
        · have HO := Lib.hid (show codeI l s d d2 = 2 by simp [codeI, h1, h2, h3, h4])
          go_enter Tryz.func70, Tryz.ntmps70
          go_wp2_with (first | (go_at_call 26; refine (implValidBookings_any A n c l B _ h hB hn hsm).mono ?_; rintro e w1 ⟨rfl, b1⟩) | (go_at_call 135; refine (implIsName_any _ _ hs).mono ?_; rintro e w2 ⟨rfl, rfl⟩) | (go_at_call 134; refine (isBookDay_any _ _).mono ?_; rintro e w2 ⟨rfl, rfl⟩) | (go_at_call 101; refine (within_any _ _ _ _).mono ?_; rintro e w2 ⟨rfl, rfl⟩))
          go_ret
          exact ⟨ret_int HO.out.symm, b1⟩
        · have HO := Lib.hid (show codeI l s d d2 = 0 by simp [codeI, h1, h2, h3, h4])
          go_enter Tryz.func70, Tryz.ntmps70
          go_wp2_with (first | (go_at_call 26; refine (implValidBookings_any A n c l B _ h hB hn hsm).mono ?_; rintro e w1 ⟨rfl, b1⟩) | (go_at_call 135; refine (implIsName_any _ _ hs).mono ?_; rintro e w2 ⟨rfl, rfl⟩) | (go_at_call 134; refine (isBookDay_any _ _).mono ?_; rintro e w2 ⟨rfl, rfl⟩) | (go_at_call 101; refine (within_any _ _ _ _).mono ?_; rintro e w2 ⟨rfl, rfl⟩))
          go_ret
          exact ⟨ret_int HO.out.symm, b1⟩
end Go.Proofs.YtjmlcobbjpmjpaaGreatDoor
namespace Go.Proofs.YtjmlcobbjpmjpaaGreatDoor
open Go.RowKit

def sinceF (f : Int → Int) : Nat → Int
  | 0 => -1
  | d + 1 => if f d ≤ 0 then -1 else if sinceF f d < 0 then (d : Int) else sinceF f d
theorem since_low {f : Int → Int} {d : Nat} (h : f d ≤ 0) : sinceF f (d + 1) = -1 := by simp [sinceF, h]
theorem since_first {f : Int → Int} {d : Nat} (h : 0 < f d) (h2 : sinceF f d < 0) : sinceF f (d + 1) = d := by
  have : ¬ f d ≤ 0 := by omega
  simp [sinceF, this, h2]
theorem since_next {f : Int → Int} {d : Nat} (h : 0 < f d) (h2 : ¬ sinceF f d < 0) : sinceF f (d + 1) = sinceF f d := by
  have : ¬ f d ≤ 0 := by omega
  simp [sinceF, this, h2]
theorem since_pos {f : Int → Int} {d : Nat} (h : 0 < f d) : ¬ sinceF f (d + 1) < 0 := by
  by_cases h2 : sinceF f d < 0
  · rw [since_first h h2]; omega
  · rw [since_next h h2]; exact h2

def owedF (l : List Bk) (s : ByteArray) (d : Int) : Int × Int := if codeS l s d = 0 then (if sinceF (bal l s) (d.toNat + 1) < 0 then (0, 3) else (sinceF (bal l s) (d.toNat + 1), 0)) else (0, codeS l s d)
theorem owedF_none {l : List Bk} {s : ByteArray} {D : Nat} (h : codeS l s D = 0) (h2 : sinceF (bal l s) (D + 1) < 0) : owedF l s D = (0, 3) := by simp [owedF, h, h2]
theorem owedF_some {l : List Bk} {s : ByteArray} {D : Nat} (h : codeS l s D = 0) (h2 : ¬ sinceF (bal l s) (D + 1) < 0) : owedF l s D = (sinceF (bal l s) (D + 1), 0) := by simp [owedF, h, h2]
theorem owedF_bad {l : List Bk} {s : ByteArray} {d : Int} (h : codeS l s d ≠ 0) : owedF l s d = (0, codeS l s d) := by simp [owedF, h]

theorem specOwedSince_any (A : Option Addr) (n c : Nat) (l : List Bk) (s : ByteArray) (d : Int) (B : Nat) (w : World) (h : Reads w B 3 A n (bks l)) (hB : B ≤ w.heap.size) (hn : n ≤ 1048576) (hsm : ∀ x ∈ l, x.small) (hs : s.size ≤ 1048576) (hd : I64 d) :
    Calls Tryz.prog 13 #[.slice A n c, .string s, .int .i64 d] w fun e w' => e = .returned (.tuple #[.int .i64 (owedF l s d).1, .int .i64 (owedF l s d).2]) ∧ Below w.heap.size w w' := by
  by_cases hc : codeS l s d = 0
  · obtain ⟨h1, h2, h3, h4⟩ := codeS_zero hc
    obtain ⟨D, rfl⟩ := Int.eq_ofNat_of_zero_le h3
    have HN := Lib.hid (owedF_none hc)
    have HP := Lib.hid (owedF_some hc)
    have HK := Lib.hid h1
    clear h1 h2 hd
    go_enter Tryz.func13, Tryz.ntmps13
    go_wp2_with fail
    refine (l25Code_any A n c l s D B _ h hB hn hsm (by omega)).mono ?_
    rintro e w1 ⟨rfl, b1⟩
    rw [hc]
    clear hc
    have h' := Lib.hid (h.on hB b1)
    go_wp2
    go_loop [9, 10] (fun q i => ∃ k : Nat, k ≤ D + 1 ∧ i = .int .i64 k ∧ q = .int .i64 (sinceF (bal l s) k)) (fun _ i => D + 1 - (intOf i).toNat)
    case atStart => exact ⟨0, Nat.zero_le _, rfl, rfl⟩
    case round =>
      obtain ⟨k, hk, rfl, rfl⟩ := hrel
      by_cases hlt : k ≤ D
      · have hle : decide ((k : Int) ≤ (D : Int)) = true := decide_eq_true (by omega)
        have HL := Lib.hid (since_low (f := bal l s) (d := k))
        have HF := Lib.hid (since_first (f := bal l s) (d := k))
        have HX := Lib.hid (since_next (f := bal l s) (d := k))
        generalize sinceF (bal l s) k = v at *
        go_wp2_with fail
        refine (l25Balance_any A n c l s k B _ h'.out HK.out ⟨by omega, by omega⟩).mono ?_
        rintro e w2 ⟨rfl, rfl⟩
        generalize bal l s k = q at *
        by_cases hq : q ≤ 0
        · go_wp2
          go_round
          case rel => exact ⟨k + 1, by omega, by go_num, by rw [HL.out hq]⟩
          case measure => simp [intOf]; omega
        · have hq1 : decide (q ≤ 0) = false := decide_eq_false hq
          by_cases hv : v < 0
          · go_wp2
            go_round
            case rel => exact ⟨k + 1, by omega, by go_num, by rw [HF.out (by omega) hv]⟩
            case measure => simp [intOf]; omega
          · have hv1 : decide (v < 0) = false := decide_eq_false hv
            go_wp2
            go_round
            case rel => exact ⟨k + 1, by omega, by go_num, by rw [HX.out (by omega) hv]⟩
            case measure => simp [intOf]; omega
      · obtain rfl : k = D + 1 := by omega
        have hle : decide (((D + 1 : Nat) : Int) ≤ (D : Int)) = false := decide_eq_false (by omega)
        have hle' : decide ((D : Int) + 1 ≤ (D : Int)) = false := decide_eq_false (by omega)
        generalize sinceF (bal l s) (D + 1) = v at *
        by_cases hv : v < 0
        · go_wp2
          go_ret2
          rw [HN.out hv]
          exact ⟨rfl, b1⟩
        · have hv1 : decide (v < 0) = false := decide_eq_false hv
          go_wp2
          go_ret2
          rw [HP.out hv]
          exact ⟨rfl, b1⟩
  · rw [owedF_bad hc]
    have hc' : (codeS l s d != 0) = true := by simp [hc]
    clear hc
    go_enter Tryz.func13, Tryz.ntmps13
    go_wp2_with fail
    refine (l25Code_any A n c l s d B _ h hB hn hsm (by omega)).mono ?_
    rintro e w1 ⟨rfl, b1⟩
    go_wp2
    go_ret2
    exact ⟨rfl, b1⟩

theorem implOwedSince_any (A : Option Addr) (n c : Nat) (l : List Bk) (s : ByteArray) (d : Int) (B : Nat) (w : World) (h : Reads w B 3 A n (bks l)) (hB : B ≤ w.heap.size) (hn : n ≤ 1048576) (hsm : ∀ x ∈ l, x.small) (hs : s.size ≤ 1048576) (hd : I64 d) :
    Calls Tryz.prog 12 #[.slice A n c, .string s, .int .i64 d] w fun e w' => e = .returned (.tuple #[.int .i64 (owedF l s d).1, .int .i64 (owedF l s d).2]) ∧ Below w.heap.size w w' := by
  by_cases hc : codeS l s d = 0
  · obtain ⟨h1, h2, h3, h4⟩ := codeS_zero hc
    obtain ⟨D, rfl⟩ := Int.eq_ofNat_of_zero_le h3
    have HN := Lib.hid (owedF_none hc)
    have HP := Lib.hid (owedF_some hc)
    have HK := Lib.hid h1
    clear h1 h2 hd
    go_enter Tryz.func12, Tryz.ntmps12
    go_wp2_with fail
    refine (bookingsCode_any A n c l s D D B _ h hB hn hsm (by omega)).mono ?_
    rintro e w1 ⟨rfl, b1⟩
    rw [codeI_self, hc]
    clear hc
    have z1 := b1.size
    go_wp2_with fail
    refine (balanceOn_any A n c l s D B _ (h.on hB b1) (by omega) HK.out ⟨by omega, by omega⟩).mono ?_
    rintro e w2 ⟨rfl, b2⟩
    have z2 := b2.size
    have H2 := Lib.hid (bnext b1 b2 (Nat.le_refl _))
    clear b1 b2
    by_cases hq : bal l s D ≤ 0
    · have hv : sinceF (bal l s) (D + 1) < 0 := by rw [since_low hq]; omega
      have HV := Lib.hid (HN.out hv)
      clear hv
      go_wp2
      go_ret2
      rw [HV.out]
      exact ⟨rfl, H2.out⟩
    · have hq1 : decide (bal l s D ≤ 0) = false := decide_eq_false hq
      have hv := since_pos (f := bal l s) (d := D) (by omega)
      have HV := Lib.hid (HP.out (by omega))
      have hv0 := Lib.hid hv
      have HQ := Lib.hid (show 0 < bal l s D by omega)
      clear hv hq
      go_wp2
      clear hq1
      go_loopw [2] (fun i wr => ∃ k : Nat, k ≤ D ∧ i = .int .i64 k ∧ 0 < bal l s k ∧ sinceF (bal l s) (k + 1) = sinceF (bal l s) (D + 1) ∧ Below w.heap.size w wr) (fun i _ => (intOf i).toNat)
      case atStart => exact ⟨D, Nat.le_refl _, rfl, HQ.out, rfl, H2.out⟩
      case round =>
        obtain ⟨k, hk, rfl, hp, hsv, hbel⟩ := hrel
        have HP2 := Lib.hid hp
        have HSV := Lib.hid hsv
        have HBe := Lib.hid hbel
        clear hp hsv
        rcases k with _ | j
        · have HR := Lib.hid (show (owedF l s D) = (0, 0) by rw [HV.out, ← HSV.out, since_first HP2.out (by simp [sinceF])]; rfl)
          go_wp2
          go_ret2
          rw [HR.out]
          exact ⟨rfl, hbel⟩
        · have hz := hbel.size
          have hj0 : decide ((0 : Int) < ((j + 1 : Nat) : Int)) = true := decide_eq_true (by omega)
          have hj1 : decide ((0 : Int) < (j : Int) + 1) = true := decide_eq_true (by omega)
          go_wp2_with fail
          refine (balanceOn_any A n c l s j B _ (h.on hB hbel) (by omega) HK.out ⟨by omega, by omega⟩).mono ?_
          rintro e w3 ⟨rfl, b3⟩
          have H3 := Lib.hid (bnext hbel b3 (Nat.le_refl _))
          clear b3 hbel
          by_cases hq : 0 < bal l s j
          · go_wp2
            go_roundw
            case rel => exact ⟨j, by omega, by go_num, hq, by rw [← HSV.out, since_next HP2.out (since_pos hq)], H3.out⟩
            case measure => simp [intOf]
          · have hq1 : decide (0 < bal l s j) = false := decide_eq_false hq
            have HR := Lib.hid (show (owedF l s D) = (((j + 1 : Nat) : Int), 0) by rw [HV.out, ← HSV.out, since_first HP2.out (by rw [since_low (by omega)]; omega)])
            clear hq
            go_wp2
            go_ret2
            rw [HR.out]
            exact ⟨rfl, H3.out⟩
  · rw [owedF_bad hc]
    have hc' : (codeS l s d != 0) = true := by simp [hc]
    clear hc
    go_enter Tryz.func12, Tryz.ntmps12
    go_wp2_with fail
    refine (bookingsCode_any A n c l s d d B _ h hB hn hsm (by omega)).mono ?_
    rintro e w1 ⟨rfl, b1⟩
    rw [codeI_self]
    go_wp2
    go_ret2
    exact ⟨rfl, b1⟩
end Go.Proofs.YtjmlcobbjpmjpaaGreatDoor
namespace Go.Proofs.YtjmlcobbjpmjpaaGreatDoor
open Go.RowKit

def balOn (l : List Bk) (s : ByteArray) (d : Int) : Int × Int := if codeS l s d = 0 then (bal l s d, 0) else (0, codeS l s d)
theorem balOn_ok {l : List Bk} {s : ByteArray} {d : Int} (h : codeS l s d = 0) : balOn l s d = (bal l s d, 0) := by simp [balOn, h]
theorem balOn_bad {l : List Bk} {s : ByteArray} {d : Int} (h : codeS l s d ≠ 0) : balOn l s d = (0, codeS l s d) := by simp [balOn, h]

theorem specBalanceOn_any (A : Option Addr) (n c : Nat) (l : List Bk) (s : ByteArray) (d : Int) (B : Nat) (w : World) (h : Reads w B 3 A n (bks l)) (hB : B ≤ w.heap.size) (hn : n ≤ 1048576) (hsm : ∀ x ∈ l, x.small) (hs : s.size ≤ 1048576) (hd : I64 d) :
    Calls Tryz.prog 15 #[.slice A n c, .string s, .int .i64 d] w fun e w' => e = .returned (.tuple #[.int .i64 (balOn l s d).1, .int .i64 (balOn l s d).2]) ∧ Below w.heap.size w w' := by
  by_cases hc : codeS l s d = 0
  · obtain ⟨h1, h2, h3, h4⟩ := codeS_zero hc
    rw [balOn_ok hc]
    go_enter Tryz.func15, Tryz.ntmps15
    go_wp2_with fail
    refine (l25Code_any A n c l s d B _ h hB hn hsm (by omega)).mono ?_
    rintro e w1 ⟨rfl, b1⟩
    rw [hc]
    clear hc
    go_wp2_with fail
    refine (l25Balance_any A n c l s d B _ (h.on hB b1) h1 hd).mono ?_
    rintro e w2 ⟨rfl, rfl⟩
    have b2 := b1
    go_wp2
    go_ret2
    exact ⟨rfl, b2⟩
  · rw [balOn_bad hc]
    have hc' : (codeS l s d != 0) = true := by simp [hc]
    clear hc
    go_enter Tryz.func15, Tryz.ntmps15
    go_wp2_with fail
    refine (l25Code_any A n c l s d B _ h hB hn hsm (by omega)).mono ?_
    rintro e w1 ⟨rfl, b1⟩
    skip
    go_wp2
    go_ret2
    exact ⟨rfl, b1⟩

theorem implBalanceOn_any (A : Option Addr) (n c : Nat) (l : List Bk) (s : ByteArray) (d : Int) (B : Nat) (w : World) (h : Reads w B 3 A n (bks l)) (hB : B ≤ w.heap.size) (hn : n ≤ 1048576) (hsm : ∀ x ∈ l, x.small) (hs : s.size ≤ 1048576) (hd : I64 d) :
    Calls Tryz.prog 14 #[.slice A n c, .string s, .int .i64 d] w fun e w' => e = .returned (.tuple #[.int .i64 (balOn l s d).1, .int .i64 (balOn l s d).2]) ∧ Below w.heap.size w w' := by
  by_cases hc : codeS l s d = 0
  · obtain ⟨h1, h2, h3, h4⟩ := codeS_zero hc
    rw [balOn_ok hc]
    go_enter Tryz.func14, Tryz.ntmps14
    go_wp2_with fail
    refine (bookingsCode_any A n c l s d d B _ h hB hn hsm (by omega)).mono ?_
    rintro e w1 ⟨rfl, b1⟩
    rw [codeI_self, hc]
    clear hc
    go_wp2_with fail
    refine (balanceOn_any A n c l s d B _ (h.on hB b1) (Nat.le_trans hB b1.size) h1 hd).mono ?_
    rintro e w2 ⟨rfl, b2⟩
    replace b2 := bnext b1 b2 (Nat.le_refl _)
    go_wp2
    go_ret2
    exact ⟨rfl, b2⟩
  · rw [balOn_bad hc]
    have hc' : (codeS l s d != 0) = true := by simp [hc]
    clear hc
    go_enter Tryz.func14, Tryz.ntmps14
    go_wp2_with fail
    refine (bookingsCode_any A n c l s d d B _ h hB hn hsm (by omega)).mono ?_
    rintro e w1 ⟨rfl, b1⟩
    rw [codeI_self]
    go_wp2
    go_ret2
    exact ⟨rfl, b1⟩
end Go.Proofs.YtjmlcobbjpmjpaaGreatDoor
namespace Go.Proofs.YtjmlcobbjpmjpaaGreatDoor
open Go.RowKit

def sameBk (x y : Bk) : Bool := x.day == y.day && (x.client.toList == y.client.toList && x.amount == y.amount)
def rowSame (l l' : List Bk) (i : Nat) : Bool := match l[i]?, l'[i]? with
  | some x, some y => sameBk x y
  | _, _ => false
theorem rowSame_at {l l' : List Bk} {i : Nat} {x y : Bk} (h : l[i]? = some x) (h' : l'[i]? = some y) : rowSame l l' i = sameBk x y := by simp [rowSame, h, h']
def sameBks (l l' : List Bk) : Bool := decide (l.length = l'.length) && (List.range l.length).all (rowSame l l')
theorem range_at' {n k : Nat} (h : k < n) : (List.range n)[k]? = some k := by simp [h]

set_option maxHeartbeats 2000000 in
theorem specSameBookings_any (A : Option Addr) (n c : Nat) (l : List Bk) (A' : Option Addr) (n' c' : Nat) (l' : List Bk) (B : Nat) (w : World) (h : Reads w B 3 A n (bks l)) (h' : Reads w B 3 A' n' (bks l')) (hB : B ≤ w.heap.size) (hn : n ≤ 1048576) (hs : ∀ x ∈ l, x.small) (hn' : n' ≤ 1048576) (hs' : ∀ x ∈ l', x.small) :
    Calls Tryz.prog 21 #[.slice A n c, .slice A' n' c'] w fun e w' => e = .returned (.bool (sameBks l l')) ∧ Below w.heap.size w w' := by
  have hl := Lib.hid (bks_len h)
  have hl' := Lib.hid (bks_len h')
  by_cases hnn : n = n'
  · subst hnn
    go_enter Tryz.func21, Tryz.ntmps21
    go_wp2
    go_loopw [5] (fun i wr => ∃ k : Nat, k ≤ n ∧ i = .int .i64 k ∧ AllTo (rowSame l l') (List.range n) k ∧ Below w.heap.size w wr) (fun i _ => n - (intOf i).toNat)
    case atStart => exact ⟨0, Nat.zero_le _, rfl, AllTo.zero _ _, Below.refl _ _⟩
    case round =>
      obtain ⟨k, hk, rfl, hall, hbel⟩ := hrel
      have HA := Lib.hid hall
      have HBe := Lib.hid hbel
      clear hall
      by_cases hlt : k < n
      · obtain ⟨x, b, off, he, rfl, hb, c0, c1, c2⟩ := bk_at (h.on hB hbel) hlt
        obtain ⟨y, b', off', he', rfl, hb', d0, d1, d2⟩ := bk_at (h'.on hB hbel) hlt
        have hi0 : (0 : Int) ≤ k := by omega
        have hi1 : (k : Int) < n := by omega
        have HR := Lib.hid (rowSame_at he he')
        clear he he' h h' hbel
        rcases hb1 : (x.day == y.day) with _ | _
        · have HO := Lib.hid (show sameBks l l' = false by simp only [sameBks, all_bad (range_at' (show k < l.length by have := hl.out; omega)) (HR.out.trans (by simp [sameBk, hb1])), Bool.and_false])
          go_wp2_with fail
          go_quiet (fail)
          go_wp2
          go_ret
          exact ⟨ret_bool HO.out.symm, below_drewN HBe.out _⟩
        · rcases hb2 : (x.client.toList == y.client.toList) with _ | _
          · have HO := Lib.hid (show sameBks l l' = false by simp only [sameBks, all_bad (range_at' (show k < l.length by have := hl.out; omega)) (HR.out.trans (by simp [sameBk, hb1, hb2])), Bool.and_false])
            go_wp2_with fail
            go_quiet (fail)
            go_wp2
            go_ret
            exact ⟨ret_bool HO.out.symm, below_drewN HBe.out _⟩
          · rcases hb3 : (x.amount == y.amount) with _ | _
            · have HO := Lib.hid (show sameBks l l' = false by simp only [sameBks, all_bad (range_at' (show k < l.length by have := hl.out; omega)) (HR.out.trans (by simp [sameBk, hb1, hb2, hb3])), Bool.and_false])
              go_wp2_with fail
              go_quiet (fail)
              go_wp2
              go_ret
              exact ⟨ret_bool HO.out.symm, below_drewN HBe.out _⟩
            · have HT := Lib.hid (HR.out.trans (show sameBk x y = true by simp [sameBk, hb1, hb2, hb3]))
              go_wp2_with fail
              go_quiet (fail)
              go_wp2
              go_roundw
              case rel => exact ⟨k + 1, by omega, by go_num, HA.out.step (range_at' hlt) HT.out, below_drewN HBe.out _⟩
              case measure => simp [intOf]; omega
      · obtain rfl : k = n := by omega
        have HO := Lib.hid (show sameBks l l' = true by simp only [sameBks, hl.out, hl'.out, HA.out.done (by simp)]; simp)
        go_wp2
        go_ret
        exact ⟨ret_bool HO.out.symm, hbel⟩
  · have HO := Lib.hid (show sameBks l l' = false by simp [sameBks, hl.out, hl'.out, hnn])
    have hne : ((n : Int) != (n' : Int)) = true := by rw [bne_iff_ne]; omega
    clear hnn
    go_enter Tryz.func21, Tryz.ntmps21
    go_wp2
    go_ret
    exact ⟨ret_bool HO.out.symm, Below.refl _ _⟩

set_option maxHeartbeats 2000000 in
theorem eqBkS_any (A : Option Addr) (n c : Nat) (l : List Bk) (A' : Option Addr) (n' c' : Nat) (l' : List Bk) (B : Nat) (w : World) (h : Reads w B 3 A n (bks l)) (h' : Reads w B 3 A' n' (bks l')) (hB : B ≤ w.heap.size) (hn : n ≤ 1048576) (hn' : n' ≤ 1048576) :
    Calls Tryz.prog 83 #[.slice A n c, .slice A' n' c'] w fun e w' => e = .returned (.bool (sameBks l l')) ∧ Below w.heap.size w w' := by
  have hl := Lib.hid (bks_len h)
  have hl' := Lib.hid (bks_len h')
  by_cases hnn : n = n'
  · subst hnn
    go_enter Tryz.func83, Tryz.ntmps83
    go_wp2
    go_loopw [13] (fun i wr => ∃ k : Nat, k ≤ n ∧ i = .int .i64 k ∧ AllTo (rowSame l l') (List.range n) k ∧ Below w.heap.size w wr) (fun i _ => n - (intOf i).toNat)
    case atStart => exact ⟨0, Nat.zero_le _, rfl, AllTo.zero _ _, Below.refl _ _⟩
    case round =>
      obtain ⟨k, hk, rfl, hall, hbel⟩ := hrel
      have HA := Lib.hid hall
      have HBe := Lib.hid hbel
      clear hall
      by_cases hlt : k < n
      · obtain ⟨x, b, off, he, rfl, hb, c0, c1, c2⟩ := bk_at (h.on hB hbel) hlt
        obtain ⟨y, b', off', he', rfl, hb', d0, d1, d2⟩ := bk_at (h'.on hB hbel) hlt
        have hi0 : (0 : Int) ≤ k := by omega
        have hi1 : (k : Int) < n := by omega
        have HR := Lib.hid (rowSame_at he he')
        clear he he' h h' hbel
        rcases hb1 : (x.day == y.day) with _ | _
        · have HO := Lib.hid (show sameBks l l' = false by simp only [sameBks, all_bad (range_at' (show k < l.length by have := hl.out; omega)) (HR.out.trans (by simp [sameBk, hb1])), Bool.and_false])
          go_wp2_with fail
          go_quiet (fail)
          go_wp2
          go_ret
          exact ⟨ret_bool HO.out.symm, below_drewN HBe.out _⟩
        · rcases hb2 : (x.client.toList == y.client.toList) with _ | _
          · have HO := Lib.hid (show sameBks l l' = false by simp only [sameBks, all_bad (range_at' (show k < l.length by have := hl.out; omega)) (HR.out.trans (by simp [sameBk, hb1, hb2])), Bool.and_false])
            go_wp2_with fail
            go_quiet (fail)
            go_wp2
            go_ret
            exact ⟨ret_bool HO.out.symm, below_drewN HBe.out _⟩
          · rcases hb3 : (x.amount == y.amount) with _ | _
            · have HO := Lib.hid (show sameBks l l' = false by simp only [sameBks, all_bad (range_at' (show k < l.length by have := hl.out; omega)) (HR.out.trans (by simp [sameBk, hb1, hb2, hb3])), Bool.and_false])
              go_wp2_with fail
              go_quiet (fail)
              go_wp2
              go_ret
              exact ⟨ret_bool HO.out.symm, below_drewN HBe.out _⟩
            · have HT := Lib.hid (HR.out.trans (show sameBk x y = true by simp [sameBk, hb1, hb2, hb3]))
              go_wp2_with fail
              go_quiet (fail)
              go_wp2
              go_roundw
              case rel => exact ⟨k + 1, by omega, by go_num, HA.out.step (range_at' hlt) HT.out, below_drewN HBe.out _⟩
              case measure => simp [intOf]; omega
      · obtain rfl : k = n := by omega
        have HO := Lib.hid (show sameBks l l' = true by simp only [sameBks, hl.out, hl'.out, HA.out.done (by simp)]; simp)
        go_wp2
        go_ret
        exact ⟨ret_bool HO.out.symm, hbel⟩
  · have HO := Lib.hid (show sameBks l l' = false by simp [sameBks, hl.out, hl'.out, hnn])
    have hne : ((n : Int) != (n' : Int)) = true := by rw [bne_iff_ne]; omega
    clear hnn
    go_enter Tryz.func83, Tryz.ntmps83
    go_wp2
    go_ret
    exact ⟨ret_bool HO.out.symm, Below.refl _ _⟩

theorem implSameBookings_any (A : Option Addr) (n c : Nat) (l : List Bk) (A' : Option Addr) (n' c' : Nat) (l' : List Bk) (B : Nat) (w : World) (h : Reads w B 3 A n (bks l)) (h' : Reads w B 3 A' n' (bks l')) (hB : B ≤ w.heap.size) (hn : n ≤ 1048576) (hs : ∀ x ∈ l, x.small) (hn' : n' ≤ 1048576) (hs' : ∀ x ∈ l', x.small) :
    Calls Tryz.prog 23 #[.slice A n c, .slice A' n' c'] w fun e w' => e = .returned (.bool (sameBks l l')) ∧ Below w.heap.size w w' := by
  go_enter Tryz.func23, Tryz.ntmps23
  go_wp2_with fail
  refine (eqBkS_any A n c l A' n' c' l' B _ h h' hB hn hn').mono ?_
  rintro e w1 ⟨rfl, b1⟩
  go_wp2
  go_ret
  exact ⟨rfl, b1⟩
end Go.Proofs.YtjmlcobbjpmjpaaGreatDoor
namespace Go.Proofs.YtjmlcobbjpmjpaaGreatDoor
open Go.RowKit

theorem okBks_iff {l : List Bk} : okBks l = true ↔ (∀ x ∈ l, okBk x = true) ∧ l.Pairwise (fun x y => x.day ≤ y.day) ∧ l.length ≤ 80 := by
  constructor
  · intro h
    refine ⟨fun x hx => okBk_iff.2 (okBks_mem h x hx), ?_, okBks_len h⟩
    rw [List.pairwise_iff_getElem]
    intro i j hi hj hij
    exact okBks_sorted h (List.getElem?_eq_getElem hi) (j - i) l[j] (by rw [show i + (j - i) = j by omega]; exact List.getElem?_eq_getElem hj)
  · rintro ⟨h1, h2, h3⟩
    simp only [okBks, Bool.and_eq_true, decide_eq_true_eq, List.all_eq_true]
    refine ⟨fun i hi => ?_, h3⟩
    have hi : i < l.length := by simpa using hi
    rw [List.pairwise_iff_getElem] at h2
    rcases Nat.eq_zero_or_pos i with e | e
    · subst e; exact rowBk_zero (List.getElem?_eq_getElem hi) (h1 _ (List.getElem_mem hi))
    · exact rowBk_ok (List.getElem?_eq_getElem hi) (h1 _ (List.getElem_mem hi)) (List.getElem?_eq_getElem (show i - 1 < l.length by omega)) (h2 (i - 1) i (by omega) hi (by omega))
theorem cutBk_at {l : List Bk} (d : Int) (h : okBks l = true) : cutBk l d ≤ l.length ∧ (∀ y ∈ l.take (cutBk l d), y.day ≤ d) ∧ (∀ y ∈ l.drop (cutBk l d), d < y.day) := by
  have hle : cutBk l d ≤ l.length := List.findIdx_le_length
  obtain ⟨_, hp, _⟩ := okBks_iff.1 h
  refine ⟨hle, fun y hy => ?_, fun y hy => ?_⟩
  · obtain ⟨k, hk, rfl⟩ := List.mem_iff_getElem.1 hy
    have hk2 : k < cutBk l d ∧ k < l.length := by simp at hk; omega
    rw [List.getElem_take]
    have h1 := List.not_of_lt_findIdx (show k < List.findIdx (lateB d) l from hk2.1)
    simp only [lateB, Bool.not_eq_true, decide_eq_false_iff_not] at h1
    simpa using h1
  · obtain ⟨k, hk, rfl⟩ := List.mem_iff_getElem.1 hy
    have hk2 : cutBk l d + k < l.length := by simp at hk; omega
    rw [List.getElem_drop]
    have hc : cutBk l d < l.length := by omega
    have h1 : lateB d l[cutBk l d] = true := List.findIdx_getElem (w := hc)
    simp only [lateB, decide_eq_true_eq] at h1
    rcases Nat.eq_zero_or_pos k with e | e
    · subst e; exact h1
    · have := List.pairwise_iff_getElem.1 hp (cutBk l d) (cutBk l d + k) hc hk2 (by omega)
      omega
/-- The list with one booking more is in order. -/
theorem okBks_ins {l : List Bk} {x : Bk} (h : okBks l = true) (hx : okBk x = true) (hl : l.length < 80) : okBks (insBk l (cutBk l x.day) x) = true := by
  obtain ⟨g1, g2, g3⟩ := okBks_iff.1 h
  obtain ⟨c1, c2, c3⟩ := cutBk_at x.day h
  refine okBks_iff.2 ⟨fun y hy => ?_, ?_, by rw [insBk_length]; omega⟩
  · unfold insBk at hy
    rcases List.mem_append.1 hy with e | e
    · exact g1 y (List.mem_of_mem_take e)
    · rcases List.mem_cons.1 e with e | e
      · subst e; exact hx
      · exact g1 y (List.mem_of_mem_drop e)
  · have e1 : l.take (cutBk l x.day) ++ l.drop (cutBk l x.day) = l := List.take_append_drop _ l
    have g2' := g2
    rw [← e1, List.pairwise_append] at g2'
    obtain ⟨p1, p2, p3⟩ := g2'
    unfold insBk
    rw [List.pairwise_append]
    refine ⟨p1, List.pairwise_cons.2 ⟨fun y hy => by have := c3 y hy; omega, p2⟩, fun a ha b hb => ?_⟩
    rcases List.mem_cons.1 hb with e | e
    · subst e; exact c2 a ha
    · exact p3 a ha b e
theorem bsum_take (f : Bk → Int) (l : List Bk) : ∀ k, bsum f l k = ((l.take k).map f).sum
  | 0 => by simp [bsum]
  | k + 1 => by
    rw [bsum, bsum_take f l k, List.take_add_one]
    rcases hx : l[k]? with _ | x <;> simp
theorem bal_sum (l : List Bk) (s : ByteArray) (d : Int) : bal l s d = (l.map (balf s d)).sum := by
  rw [bal, bsum_take, List.take_length]
theorem bal_ins (l : List Bk) (k : Nat) (x : Bk) : bal (insBk l k x) x.client x.day = bal l x.client x.day + x.amount := by
  have e : balf x.client x.day x = x.amount := by simp [balf]
  rw [bal_sum, bal_sum]
  have e1 : (l.map (balf x.client x.day)).sum = ((l.take k).map (balf x.client x.day)).sum + ((l.drop k).map (balf x.client x.day)).sum := by
    rw [← List.sum_append, ← List.map_append, List.take_append_drop]
  rw [e1]
  simp only [insBk, List.map_append, List.map_cons, List.sum_append, List.sum_cons, e]
  omega
theorem codeS_ok0 {l : List Bk} {s : ByteArray} {d : Int} : codeS l s d = 0 ↔ okBks l = true ∧ isName s = true ∧ (0 ≤ d ∧ d ≤ 20000) := by
  unfold codeS
  rcases h1 : okBks l with _ | _
  · simp
  · rcases h2 : (isName s && inR d 0 20000) with _ | _
    · simp only [Bool.and_eq_false_iff] at h2
      constructor
      · intro h; simp at h
      · rintro ⟨_, a, b⟩
        rcases h2 with h2 | h2
        · rw [a] at h2; cases h2
        · have := inR_true.2 b; rw [this] at h2; cases h2
    · simp only [Bool.and_eq_true, inR_true] at h2
      simp [h2]
/-- A booking made. -/
theorem book_zero {l : List Bk} {x : Bk} (h : (bookF l x).2 = 0) : okBks (bookF l x).1 = true ∧ balOn l x.client x.day = (bal l x.client x.day, 0) ∧ balOn (bookF l x).1 x.client x.day = (bal l x.client x.day + x.amount, 0) ∧ (-80000000000 ≤ bal l x.client x.day ∧ bal l x.client x.day ≤ 80000000000) ∧ (-1000000000 ≤ x.amount ∧ x.amount ≤ 1000000000) ∧ (0 ≤ x.day ∧ x.day ≤ 20000) ∧ x.client.size ≤ 12 := by
  rcases h1 : okBks l with _ | _
  · rw [bookF_bad h1] at h; simp at h
  · rcases h2 : okBk x with _ | _
    · rw [bookF_range h1 h2] at h; simp at h
    · by_cases h4 : 80 ≤ l.length
      · rw [bookF_full h1 h2 h4] at h; simp at h
      · have e := bookF_ok h1 h2 h4 rfl
        have ho := okBks_ins h1 h2 (by omega)
        obtain ⟨hd, hn, ha, _⟩ := okBk_iff.1 h2
        rw [e]
        refine ⟨ho, balOn_ok (codeS_ok0.2 ⟨h1, hn, hd⟩), ?_, bal_bd h1 _ _, ha, hd, (isName_len hn).2⟩
        rw [balOn_ok (codeS_ok0.2 ⟨ho, hn, hd⟩), bal_ins]
/-- A debt has begun on the day that is told. -/
theorem since_facts (f : Int → Int) : ∀ n : Nat, sinceF f n < 0 ∨ ∃ q : Nat, sinceF f n = q ∧ q < n ∧ 0 < f q ∧ (0 < q → f ((q : Int) - 1) ≤ 0)
  | 0 => .inl (by simp [sinceF])
  | n + 1 => by
    by_cases h : f n ≤ 0
    · left; rw [since_low h]; omega
    · by_cases h2 : sinceF f n < 0
      · right
        refine ⟨n, since_first (by omega) h2, by omega, by omega, fun h0 => ?_⟩
        obtain ⟨m, rfl⟩ : ∃ m, n = m + 1 := ⟨n - 1, by omega⟩
        have e : ((m + 1 : Nat) : Int) - 1 = (m : Int) := by omega
        rw [e]
        by_cases h3 : f m ≤ 0
        · exact h3
        · exact absurd h2 (since_pos (by omega))
      · right
        rcases since_facts f n with h3 | ⟨q, h3, h4, h5, h6⟩
        · exact absurd h3 h2
        · exact ⟨q, by rw [since_next (by omega) h2, h3], by omega, h5, h6⟩
theorem owed_zero {l : List Bk} {s : ByteArray} {d : Int} (h : (owedF l s d).2 = 0) : ∃ q : Nat, (owedF l s d).1 = (q : Int) ∧ (q : Int) ≤ d ∧ d ≤ 20000 ∧ s.size ≤ 12 ∧ balOn l s q = (bal l s q, 0) ∧ 1 ≤ bal l s q ∧ (0 < q → balOn l s ((q : Int) - 1) = (bal l s ((q : Int) - 1), 0) ∧ bal l s ((q : Int) - 1) ≤ 0) := by
  by_cases hc : codeS l s d = 0
  · obtain ⟨ho, hn, hd⟩ := codeS_ok0.1 hc
    obtain ⟨D, rfl⟩ := Int.eq_ofNat_of_zero_le hd.1
    rcases since_facts (bal l s) (D + 1) with h3 | ⟨q, h3, h4, h5, h6⟩
    · have e := owedF_none hc h3
      rw [e] at h; simp at h
    · have e := owedF_some hc (by rw [h3]; omega)
      refine ⟨q, by rw [e, h3], by omega, hd.2, (isName_len hn).2, balOn_ok (codeS_ok0.2 ⟨ho, hn, by omega, by omega⟩), h5, fun h0 => ⟨balOn_ok (codeS_ok0.2 ⟨ho, hn, by omega, by omega⟩), h6 h0⟩⟩
  · have e := owedF_bad hc
    rw [e] at h; exact absurd h hc
theorem owed_zero' {l : List Bk} {s : ByteArray} {d : Int} (h : (owedF l s d).2 = 0) : (0 ≤ (owedF l s d).1 ∧ (owedF l s d).1 ≤ d ∧ d ≤ 20000) ∧ balOn l s (owedF l s d).1 = (bal l s (owedF l s d).1, 0) ∧ 1 ≤ bal l s (owedF l s d).1 ∧ (0 < (owedF l s d).1 → balOn l s ((owedF l s d).1 - 1) = (bal l s ((owedF l s d).1 - 1), 0) ∧ bal l s ((owedF l s d).1 - 1) ≤ 0) := by
  obtain ⟨q, hq1, hqd, hd2, hts, hbq, hb1, hprev⟩ := owed_zero h
  rw [hq1]
  exact ⟨⟨by omega, hqd, hd2⟩, hbq, hb1, fun h0 => hprev (by omega)⟩
theorem owed_iff {l : List Bk} {s : ByteArray} {d : Int} (h : (balOn l s d).2 = 0) : decide (0 < (balOn l s d).1) = ((owedF l s d).2 == 0) := by
  by_cases hc : codeS l s d = 0
  · obtain ⟨ho, hn, hd⟩ := codeS_ok0.1 hc
    obtain ⟨D, rfl⟩ := Int.eq_ofNat_of_zero_le hd.1
    rw [balOn_ok hc]
    by_cases hp : 0 < bal l s D
    · rw [owedF_some hc (since_pos hp)]; simp [hp]
    · rw [owedF_none hc (by rw [since_low (show bal l s (D : Int) ≤ 0 by omega)]; omega)]; simp; omega
  · rw [balOn_bad hc] at h; exact absurd h hc
/-- Each of those who owe. -/
theorem debt_at {l : List Bk} {d : Int} {i : Nat} {t : ByteArray} (h : (debtorsN l d).1[i]? = some t) : balOn l t d = (bal l t d, 0) ∧ 1 ≤ bal l t d ∧ t.size ≤ 12 ∧ (∀ (j : Nat) (u : ByteArray), i = j + 1 → (debtorsN l d).1[j]? = some u → bal l t d ≤ bal l u d) := by
  rcases h1 : okBks l with _ | _
  · rw [debtorsN_bad h1] at h; simp at h
  · rcases h2 : inR d 0 20000 with _ | _
    · rw [debtorsN_day h1 h2] at h; simp at h
    · rw [debtorsN_ok h1 h2] at h ⊢
      have hm := List.mem_filter.1 ((debt_mem l d t).1 (List.mem_of_getElem? h))
      have hp : 0 < bal l t d := by simpa [owes] using hm.2
      have hn : isName t = true := by
        have hb := (uniqB_facts (l.map fun b : Bk => b.client)).2.1 t |>.1 hm.1
        obtain ⟨b, hb1, rfl⟩ := List.mem_map.1 hb
        exact (okBks_mem h1 b hb1).2.1
      refine ⟨balOn_ok (codeS_ok0.2 ⟨h1, hn, inR_true.1 h2⟩), by omega, (isName_len hn).2, fun j u hj hu => ?_⟩
      subst hj
      obtain ⟨hi, e1⟩ := List.getElem?_eq_some_iff.1 h
      obtain ⟨hj, e2⟩ := List.getElem?_eq_some_iff.1 hu
      have := List.pairwise_iff_getElem.1 (debt_pw l d) j (j + 1) hj hi (by omega)
      simp only at e1 e2
      rw [e1, e2] at this
      rcases this with q | q <;> omega
theorem sameBk_refl (x : Bk) : sameBk x x = true := by simp [sameBk]
theorem sameBks_refl (l : List Bk) : sameBks l l = true := by
  simp only [sameBks, Bool.and_eq_true, List.all_eq_true]
  refine ⟨by simp, fun i hi => ?_⟩
  have hi' : i < l.length := by simpa using hi
  rw [rowSame_at (List.getElem?_eq_getElem hi') (List.getElem?_eq_getElem hi')]
  exact sameBk_refl _
end Go.Proofs.YtjmlcobbjpmjpaaGreatDoor
namespace Go.Proofs.YtjmlcobbjpmjpaaGreatDoor
open Go.RowKit

theorem int_at {w : World} {B n k : Nat} {A : Option Addr} {l : List Int} (h : Reads w B 1 A n (ints l)) (hk : k < n) :
    ∃ (x : Int) (b off : Nat), l[k]? = some x ∧ A = some ⟨b, off, none⟩ ∧ b < B ∧ w.cell? ⟨b, off + k, none⟩ = some (.int .i64 x) := by
  obtain ⟨b, off, rfl, hb, hcell⟩ := h.at_ (by omega)
  have hl := h.1
  rw [ints_length] at hl
  have he : l[k]? = some l[k] := List.getElem?_eq_getElem (by omega)
  exact ⟨_, b, off, he, rfl, hb, hcell _ _ (ints_get he)⟩
theorem ints_len {w : World} {B n : Nat} {A : Option Addr} {l : List Int} (h : Reads w B 1 A n (ints l)) : l.length = n := by
  have := h.1
  rw [ints_length] at this
  omega

/-- The law's comparison of two slices that read alike. -/
theorem eqInt64S_same (A A' : Option Addr) (n c c' B : Nat) (l : List Int) (w : World) (h : Reads w B 1 A n (ints l)) (h' : Reads w B 1 A' n (ints l)) (hn : n ≤ 1048576) (hB : B ≤ w.heap.size) :
    Calls Tryz.prog 130 #[.slice A n c, .slice A' n c'] w fun e w' => e = .returned (.bool true) ∧ Below w.heap.size w w' := by
  go_enter Tryz.func130, Tryz.ntmps130
  go_wp2
  go_loopw [5] (fun i wr => ∃ k : Nat, k ≤ n ∧ i = .int .i64 k ∧ Below w.heap.size w wr) (fun i _ => n - (intOf i).toNat)
  case atStart => exact ⟨0, Nat.zero_le _, rfl, Below.refl _ _⟩
  case round =>
    obtain ⟨k, hk, rfl, hbel⟩ := hrel
    by_cases hlt : k < n
    · obtain ⟨x, b, off, he, rfl, hb, c0⟩ := int_at (h.on hB hbel) hlt
      obtain ⟨x', b', off', he', rfl, hb', c1⟩ := int_at (h'.on hB hbel) hlt
      obtain rfl : x = x' := by rw [he] at he'; injection he'
      have HB := Lib.hid hbel
      have hlt' : (k : Int) < n := by omega
      have hk0 : (0 : Int) ≤ k := by omega
      clear he he' hbel h h'
      go_wp2_with fail
      go_quiet (fail)
      go_wp2
      go_roundw
      case rel => exact ⟨k + 1, by omega, by go_num, below_drewN HB.out _⟩
      case measure => simp [intOf]; omega
    · obtain rfl : k = n := by omega
      go_wp2
      go_ret
      exact ⟨rfl, hbel⟩

end Go.Proofs.YtjmlcobbjpmjpaaGreatDoor
namespace Go.Proofs.YtjmlcobbjpmjpaaGreatDoor
open Go.RowKit

theorem f6texts_same (A A' : Option Addr) (n c c' B : Nat) (l : List ByteArray) (w : World) (h : Reads w B 1 A n (strs l)) (h' : Reads w B 1 A' n (strs l)) (hn : n ≤ 1048576) (hB : B ≤ w.heap.size) :
    Calls Tryz.prog 22 #[.slice A n c, .slice A' n c'] w fun e w' => e = .returned (.bool true) ∧ Below w.heap.size w w' := by
  go_enter Tryz.func22, Tryz.ntmps22
  go_wp2
  go_loopw [5] (fun i wr => ∃ k : Nat, k ≤ n ∧ i = .int .i64 k ∧ Below w.heap.size w wr) (fun i _ => n - (intOf i).toNat)
  case atStart => exact ⟨0, Nat.zero_le _, rfl, Below.refl _ _⟩
  case round =>
    obtain ⟨k, hk, rfl, hbel⟩ := hrel
    by_cases hlt : k < n
    · obtain ⟨x, b, off, he, rfl, hb, c0⟩ := str_at (h.on hB hbel) hlt
      obtain ⟨x', b', off', he', rfl, hb', c1⟩ := str_at (h'.on hB hbel) hlt
      obtain rfl : x = x' := by rw [he] at he'; injection he'
      have HB := Lib.hid hbel
      have hlt' : (k : Int) < n := by omega
      have hk0 : (0 : Int) ≤ k := by omega
      clear he he' hbel h h'
      have htt : (x.toList == x.toList) = true := by simp
      go_wp2_with fail
      go_quiet (fail)
      clear htt
      go_wp2
      go_roundw
      case rel => exact ⟨k + 1, by omega, by go_num, below_drewN HB.out _⟩
      case measure => simp [intOf]; omega
    · obtain rfl : k = n := by omega
      go_wp2
      go_ret
      exact ⟨rfl, hbel⟩
end Go.Proofs.YtjmlcobbjpmjpaaGreatDoor
namespace Go.Proofs.YtjmlcobbjpmjpaaGreatDoor
open Go.RowKit

theorem f6big_any (A : Option Addr) (n c : Nat) (w : World) (hn : n ≤ 9223372036854775807) :
    Calls Tryz.prog 7 #[.slice A n c] w fun e w' => e = .returned (.bool (decide (4096 < n))) ∧ w = w' := by
  by_cases h : 4096 < n
  · rw [decide_eq_true h]
    go_enter Tryz.func7, Tryz.ntmps7
    go_wp2
    go_ret
    exact ⟨ret_bool (by simp; omega), rfl⟩
  · rw [decide_eq_false h]
    go_enter Tryz.func7, Tryz.ntmps7
    go_wp2
    go_ret
    exact ⟨ret_bool (by simp; omega), rfl⟩
end Go.Proofs.YtjmlcobbjpmjpaaGreatDoor
namespace Go.Proofs.YtjmlcobbjpmjpaaGreatDoor
open Go.RowKit

theorem byt_at {w : World} {B n k : Nat} {A : Option Addr} {l : List Int} (h : Reads w B 1 A n (byts l)) (hk : k < n) :
    ∃ (x : Int) (b off : Nat), l[k]? = some x ∧ A = some ⟨b, off, none⟩ ∧ b < B ∧ w.cell? ⟨b, off + k, none⟩ = some (.int .u8 x) := by
  obtain ⟨b, off, rfl, hb, hcell⟩ := h.at_ (by omega)
  have hl := h.1
  rw [byts_length] at hl
  have he : l[k]? = some l[k] := List.getElem?_eq_getElem (by omega)
  exact ⟨_, b, off, he, rfl, hb, hcell _ _ (byts_get he)⟩

theorem wrap_u64_le (n : Int) : IntKind.u64.wrap n ≤ 18446744073709551615 := by rw [IntKind.wrap_u64]; omega
theorem wrap_u64_ge (n : Int) : 0 ≤ IntKind.u64.wrap n := by rw [IntKind.wrap_u64]; omega
theorem byt_bits {s : Int} (h0 : 0 ≤ s) (h1 : s ≤ 18446744073709551615) : Byt (wrap64 (bits BinOp.and IntKind.u64 (s / 1099511627776) 255)) := by
  obtain ⟨q, hq⟩ := Int.eq_ofNat_of_zero_le (show 0 ≤ s / 1099511627776 by omega)
  rw [hq]
  have e : bits BinOp.and IntKind.u64 (q : Int) 255 = ((q &&& 255 : Nat) : Int) := bits_and_u64_nat q 255 (by omega) (by omega)
  rw [e]
  have hle : q &&& 255 ≤ 255 := Nat.and_le_right
  generalize q &&& 255 = y at hle ⊢
  have : wrap64 (y : Int) = y := by simp only [wrap64]; omega
  rw [this]
  unfold Byt
  omega
/-- The source behind one question more. -/
theorem src_set {g k n c a : Nat} {A : Option Addr} {bs : List Int} {sd sd2 : Int} {w : World} (hb : Blk w g 157 #[.slice A n c, .int .i64 (a : Int), .int .u64 sd]) (hr : Reads w g 1 A n (byts bs)) (hby : ∀ x ∈ bs, Byt x) (ha : a ≤ k) (hn : n ≤ 9223372036854775807) (h0 : 0 ≤ sd2) (h1 : sd2 ≤ 18446744073709551615) (m m2 : Nat) :
    Src g (k + 1) ((((w.drewN m).setCell ⟨g, 1, none⟩ (.int .i64 ((a : Int) + 1))).setCell ⟨g, 2, none⟩ (.int .u64 sd2)).drewN m2) ∧ Only g (g + 1) w ((((w.drewN m).setCell ⟨g, 1, none⟩ (.int .i64 ((a : Int) + 1))).setCell ⟨g, 2, none⟩ (.int .u64 sd2)).drewN m2) := by
  have ho : Only g (g + 1) w ((((w.drewN m).setCell ⟨g, 1, none⟩ (.int .i64 ((a : Int) + 1))).setCell ⟨g, 2, none⟩ (.int .u64 sd2)).drewN m2) := ((((Only.refl g (g + 1) w).drewN m).setCell (p := ⟨g, 1, none⟩) (Nat.le_refl g) (Nat.lt_succ_self g) _).setCell (p := ⟨g, 2, none⟩) (Nat.le_refl g) (Nat.lt_succ_self g) _).drewN m2
  refine ⟨⟨A, n, c, bs, a + 1, sd2, ?_, hr.keep fun p hp => World.cell?_of_block (ho.block p.block (by have := hb.lt; omega) (by omega)), by omega, hby, hn, h0, h1⟩, ho⟩
  have := (((hb.drewN m).set_ 1 (.int .i64 ((a : Int) + 1))).set_ 2 (.int .u64 sd2)).drewN m2
  simpa using this
theorem l00From_any (A : Option Addr) (n c : Nat) (bs : List Int) (w : World) (h : Reads w w.heap.size 1 A n (byts bs)) (hb : ∀ x ∈ bs, Byt x) (hn : n ≤ 9223372036854775807) :
    Calls Tryz.prog 57 #[.slice A n c] w fun e w' => e = .returned (.pointer (some ⟨w.heap.size, 0, none⟩)) ∧ Src w.heap.size 0 w' ∧ Below w.heap.size w w' ∧ w.heap.size < w'.heap.size := by
  have HS := Lib.hid (src_new (c := c) h hb hn)
  clear h hb
  go_enter Tryz.func57, Tryz.ntmps57
  go_wp2
  go_ret
  exact ⟨rfl, HS.out, (Below.refl _ _).alloc (Nat.le_refl _) _, by simp⟩

set_option maxRecDepth 100000 in
theorem next_any (g k : Nat) (w : World) (h : Src g k w) (hk : k ≤ 1000000000000) :
    Calls Tryz.prog 133 #[.pointer (some ⟨g, 0, none⟩)] w fun e w' => ∃ x : Int, e = .returned (.int .i64 x) ∧ Byt x ∧ Src g (k + 1) w' ∧ Only g (g + 1) w w' := by
  obtain ⟨A, n, c, bs, a, sd, hb, hr, ha, hby, hn, hs0, hs1⟩ := h
  have q0 : w.cell? ⟨g, 0, none⟩ = some (.slice A n c) := hb.cellAt 0 (by simp)
  have q1 : w.cell? ⟨g, 1, none⟩ = some (.int .i64 (a : Int)) := hb.cellAt 1 (by simp)
  have q2 : w.cell? ⟨g, 2, none⟩ = some (.int .u64 sd) := hb.cellAt 2 (by simp)
  have f1 := hb.frozen 1
  have f2 := hb.frozen 2
  have HB := Lib.hid hb
  have HR := Lib.hid hr
  have HY := Lib.hid hby
  clear hb hby
  by_cases hlt : a < n
  · obtain ⟨x, b, off, hx, rfl, hbl, c0⟩ := byt_at hr hlt
    have hxb := HY.out x (List.mem_of_getElem? hx)
    unfold Byt at hxb
    have hne : ¬ b = g := by omega
    clear hx hr
    go_enter Tryz.func133, Tryz.ntmps133
    go_wp2_with fail
    go_quiet (fail)
    go_wp2_with fail
    go_quiet (fail)
    go_wp2_with fail
    generalize hsd : IntKind.u64.wrap (IntKind.u64.wrap (IntKind.u64.wrap (sd * 6364136223846793005) + x) + 1442695040888963407) = sd2
    have hsd0 : 0 ≤ sd2 := by rw [← hsd]; exact wrap_u64_ge _
    have hsd1 : sd2 ≤ 18446744073709551615 := by rw [← hsd]; exact wrap_u64_le _
    clear hsd
    have HW := Lib.hid (fun m m2 => src_set (A := some ⟨b, off, none⟩) (n := n) (c := c) (a := a) (sd2 := sd2) HB.out HR.out HY.out ha hn hsd0 hsd1 m m2)
    go_quiet (fail)
    go_wp2
    go_ret
    exact ⟨x, rfl, hxb, (HW.out _ _).1, (HW.out _ _).2⟩
  · have hlt' : decide ((a : Int) < n) = false := by simp; omega
    clear hr
    go_enter Tryz.func133, Tryz.ntmps133
    go_wp2_with fail
    go_quiet (fail)
    go_wp2_with fail
    generalize hsd : IntKind.u64.wrap (IntKind.u64.wrap (IntKind.u64.wrap (sd * 6364136223846793005)) + 1442695040888963407) = sd2
    have hsd0 : 0 ≤ sd2 := by rw [← hsd]; exact wrap_u64_ge _
    have hsd1 : sd2 ≤ 18446744073709551615 := by rw [← hsd]; exact wrap_u64_le _
    clear hsd
    have HW := Lib.hid (fun m m2 => src_set (A := A) (n := n) (c := c) (a := a) (sd2 := sd2) HB.out HR.out HY.out ha hn hsd0 hsd1 m m2)
    have hl2 : decide ((a : Int) + 1 ≤ n) = false := by simp; omega
    go_quiet (fail)
    go_wp2_with fail
    go_ret
    refine ⟨_, rfl, ?_, (HW.out _ _).1, (HW.out _ _).2⟩
    exact byt_bits hsd0 hsd1

/-- A number that is picked. -/
theorem pick_any (g k : Nat) (n : Int) (w : World) (h : Src g k w) (hk : k ≤ 100000000000) (hn : I64 n) :
    Calls Tryz.prog 59 #[.pointer (some ⟨g, 0, none⟩), .int .i64 n] w fun e w' => ∃ x : Int, e = .returned (.int .i64 x) ∧ PickR n x ∧ Src g (k + 2) w' ∧ Only g (g + 1) w w' := by
  have HS := Lib.hid h
  unfold I64 at hn
  by_cases h1 : n ≤ 1
  · have hp : PickR n 0 := ⟨by omega, fun _ => rfl, fun h => by omega, by omega⟩
    have HP := Lib.hid hp
    clear h hp
    go_enter Tryz.func59, Tryz.ntmps59
    go_wp2
    go_ret
    exact ⟨0, rfl, HP.out, HS.out.more (by omega), Only.refl _ _ _⟩
  · have h1' : decide (n ≤ 1) = false := by simp; omega
    have hn0 : ¬ n = 0 := by omega
    by_cases h2 : 200 < n
    · go_enter Tryz.func59, Tryz.ntmps59
      go_wp2_with fail
      refine (next_any g k _ h (by omega)).mono ?_
      rintro e w1 ⟨x, rfl, hx, s1, o1⟩
      unfold Byt at hx
      go_wp2_with fail
      refine (next_any g (k + 1) _ s1 (by omega)).mono ?_
      rintro e w2 ⟨y, rfl, hy, s2, o2⟩
      unfold Byt at hy
      have HP := Lib.hid (pickR_mod (n := n) (y := x * 256 + y) (by omega) (by omega) (by omega))
      have HF := Lib.hid (o1.trans o2)
      clear o1 o2
      go_wp2
      go_ret
      exact ⟨_, rfl, HP.out, s2, HF.out⟩
    · have h2' : decide (200 < n) = false := by simp; omega
      go_enter Tryz.func59, Tryz.ntmps59
      go_wp2_with fail
      refine (next_any g k _ h (by omega)).mono ?_
      rintro e w1 ⟨x, rfl, hx, s1, o1⟩
      unfold Byt at hx
      have HP := Lib.hid (pickR_mod (n := n) (y := x) (by omega) (by omega) (by omega))
      go_wp2
      go_ret
      exact ⟨_, rfl, HP.out, s1.more (by omega), o1⟩
theorem one_any (g k : Nat) (n : Int) (w : World) (h : Src g k w) (hk : k ≤ 100000000000) (hn : I64 n) :
    Calls Tryz.prog 60 #[.pointer (some ⟨g, 0, none⟩), .int .i64 n] w fun e w' => ∃ x : Bool, e = .returned (.bool x) ∧ Src g (k + 2) w' ∧ Only g (g + 1) w w' := by
  go_enter Tryz.func60, Tryz.ntmps60
  go_wp2_with fail
  refine (pick_any g k n _ h hk hn).mono ?_
  rintro e w1 ⟨x, rfl, hx, s1, o1⟩
  go_wp2
  go_ret
  exact ⟨_, rfl, s1, o1⟩
/-- One of some numbers. -/
theorem among_any (g k b m : Nat) (t : TypeId) (xs : List Int) (w : World) (h : Src g k w) (hk : k ≤ 100000000000) (hb : Blk w b t (ints xs).toArray) (hm : xs.length = m) (h0 : 0 < m) (h1 : m ≤ 1000) (hne : g < b) :
    Calls Tryz.prog 99 #[.pointer (some ⟨g, 0, none⟩), .slice (some ⟨b, 0, none⟩) m m] w fun e w' => ∃ x : Int, e = .returned (.int .i64 x) ∧ x ∈ xs ∧ Src g (k + 2) w' ∧ Only g (g + 1) w w' := by
  have HB := Lib.hid hb
  clear hb
  have HM := Lib.hid hm
  clear hm
  go_enter Tryz.func99, Tryz.ntmps99
  go_wp2_with fail
  refine (pick_any g k m _ h hk ⟨by omega, by omega⟩).mono ?_
  rintro e w1 ⟨x, rfl, hx, s1, o1⟩
  have hlt := hx.lt (by omega)
  have hx0 := hx.1
  clear hx
  obtain ⟨j, rfl⟩ := Int.eq_ofNat_of_zero_le hx0
  have hj : j < m := by omega
  have hg : xs[j]? = some (xs[j]'(by have := HM.out; omega)) := List.getElem?_eq_getElem _
  have hc : w1.cell? ⟨b, j, none⟩ = some (.int .i64 (xs[j]'(by have := HM.out; omega))) := by
    have hb1 : Blk w1 b t (ints xs).toArray := (o1.block b HB.out.lt (by omega)).trans HB.out
    exact ints_cell hb1 hg
  have HG := Lib.hid (List.mem_of_getElem? hg)
  generalize xs[j]'(by have := HM.out; omega) = y at *
  clear hg
  go_wp2
  go_ret
  exact ⟨_, rfl, HG.out, s1, o1⟩
/-- One of some texts. -/
theorem text_any (g k b m : Nat) (t : TypeId) (xs : List ByteArray) (w : World) (h : Src g k w) (hk : k ≤ 100000000000) (hb : Blk w b t (strs xs).toArray) (hm : xs.length = m) (h0 : 0 < m) (h1 : m ≤ 1000) (hne : g < b) :
    Calls Tryz.prog 89 #[.pointer (some ⟨g, 0, none⟩), .slice (some ⟨b, 0, none⟩) m m] w fun e w' => ∃ x : ByteArray, e = .returned (.string x) ∧ x ∈ xs ∧ Src g (k + 2) w' ∧ Only g (g + 1) w w' := by
  have HB := Lib.hid hb
  clear hb
  have HM := Lib.hid hm
  clear hm
  go_enter Tryz.func89, Tryz.ntmps89
  go_wp2_with fail
  refine (pick_any g k m _ h hk ⟨by omega, by omega⟩).mono ?_
  rintro e w1 ⟨x, rfl, hx, s1, o1⟩
  have hlt := hx.lt (by omega)
  have hx0 := hx.1
  clear hx
  obtain ⟨j, rfl⟩ := Int.eq_ofNat_of_zero_le hx0
  have hj : j < m := by omega
  have hg : xs[j]? = some (xs[j]'(by have := HM.out; omega)) := List.getElem?_eq_getElem _
  have hc : w1.cell? ⟨b, j, none⟩ = some (.string (xs[j]'(by have := HM.out; omega))) := by
    have hb1 : Blk w1 b t (strs xs).toArray := (o1.block b HB.out.lt (by omega)).trans HB.out
    rw [hb1.cell]; simp [strs, hg]
  have HG := Lib.hid (List.mem_of_getElem? hg)
  generalize xs[j]'(by have := HM.out; omega) = y at *
  clear hg
  go_wp2
  go_ret
  exact ⟨_, rfl, HG.out, s1, o1⟩
end Go.Proofs.YtjmlcobbjpmjpaaGreatDoor
namespace Go.Proofs.YtjmlcobbjpmjpaaGreatDoor
open Go.RowKit

def pos0 (x : Int) : Int := if 0 < x then x else 0
theorem pos0_bd {x : Int} (h : x ≤ 80000000000) : 0 ≤ pos0 x ∧ pos0 x ≤ 80000000000 := by unfold pos0; split <;> omega
end Go.Proofs.YtjmlcobbjpmjpaaGreatDoor
namespace Go.Proofs.YtjmlcobbjpmjpaaGreatDoor
open Go.RowKit

theorem Blk.only3 {lo hi g : Nat} {t : TypeId} {cs : Array Value} {w w' : World} (h : Blk w g t cs) (ho : Only lo hi w w') (hd : g < lo ∨ hi ≤ g) : Blk w' g t cs := (ho.block g h.lt hd).trans h
theorem Blk.cast3 {g : Nat} {t : TypeId} {cs cs' : Array Value} {w : World} (h : Blk w g t cs) (e : cs = cs') : Blk w g t cs' := e ▸ h
theorem info_bkD : (Tryz.prog.info? 26).map (fun i => (i.zero, i.size, i.bytes)) = some (some (.agg #[.int .i64 0, .string ⟨#[]⟩, .int .i64 0]), 3, 32) := by kernel_rfl
theorem bks_snocD (l : List Bk) (x : Bk) : bks l ++ cellsBk x = bks (l ++ [x]) := by simp [bks]
theorem bk_oneD (x : Bk) : ∀ u ∈ cellsBk x, u.oneCell' = true := by
  intro u hu
  simp only [cellsBk, List.mem_cons, List.not_mem_nil, or_false] at hu
  rcases hu with h | h | h <;> subst h <;> rfl
theorem texts_small {t : ByteArray} : (t ∈ ([⟨#[98, 97, 110, 107]⟩, ⟨#[119, 97, 114, 100]⟩, ⟨#[108, 97, 98, 45, 50]⟩] : List ByteArray) → t.size ≤ 12) ∧ (t ∈ ([⟨#[]⟩, ⟨#[66, 97, 110, 107]⟩, ⟨#[98, 97, 110, 107]⟩] : List ByteArray) → t.size ≤ 12) ∧ (t ∈ ([⟨#[98, 97, 110, 107]⟩, ⟨#[98, 97, 110, 107]⟩, ⟨#[119, 97, 114, 100]⟩, ⟨#[108, 97, 98, 45, 50]⟩, ⟨#[110, 111, 110, 101]⟩, ⟨#[]⟩, ⟨#[66, 97, 110, 107]⟩] : List ByteArray) → t.size ≤ 12) := by
  refine ⟨fun h => ?_, fun h => ?_, fun h => ?_⟩
  · simp only [List.mem_cons, List.not_mem_nil, or_false] at h
    rcases h with h | h | h <;> subst h <;> decide
  · simp only [List.mem_cons, List.not_mem_nil, or_false] at h
    rcases h with h | h | h <;> subst h <;> decide
  · simp only [List.mem_cons, List.not_mem_nil, or_false] at h
    rcases h with h | h | h | h | h | h | h <;> subst h <;> decide
def GoodB (l : List Bk) : Prop := ∀ x ∈ l, x.good ∧ x.small
theorem good_bk {d a : Int} {t : ByteArray} (hd : I64 d) (ha : I64 a) (ht : t.size ≤ 12) : (⟨d, t, a⟩ : Bk).good ∧ (⟨d, t, a⟩ : Bk).small := ⟨⟨hd, by simp only; omega, ha⟩, by unfold Bk.small; simp only; omega⟩
theorem bks_set : ∀ (l : List Bk) (j : Nat), j < l.length → GoodB l → (∀ z, I64 z → ∃ l' : List Bk, l'.length = l.length ∧ GoodB l' ∧ (bks l).set (j * 3) (.int .i64 z) = bks l') ∧ (∀ s : ByteArray, s.size ≤ 12 → ∃ l' : List Bk, l'.length = l.length ∧ GoodB l' ∧ (bks l).set (j * 3 + 1) (.string s) = bks l') ∧ (∀ z, I64 z → ∃ l' : List Bk, l'.length = l.length ∧ GoodB l' ∧ (bks l).set (j * 3 + 2) (.int .i64 z) = bks l')
  | [], j, h, _ => by simp at h
  | a :: l, 0, h, hg => by
    have ha := hg a (by simp)
    have hl : GoodB l := fun x hx => hg x (by simp [hx])
    have cons : ∀ b : Bk, b.good ∧ b.small → GoodB (b :: l) := fun b hb x hx => by
      rcases List.mem_cons.1 hx with e | e
      · subst e; exact hb
      · exact hl x e
    refine ⟨fun z hz => ⟨⟨z, a.client, a.amount⟩ :: l, rfl, cons _ ⟨⟨hz, ha.1.2.1, ha.1.2.2⟩, ha.2⟩, rfl⟩, fun s hs => ⟨⟨a.day, s, a.amount⟩ :: l, rfl, cons _ ⟨⟨ha.1.1, by simp only; omega, ha.1.2.2⟩, by unfold Bk.small; simp only; omega⟩, rfl⟩, fun z hz => ⟨⟨a.day, a.client, z⟩ :: l, rfl, cons _ ⟨⟨ha.1.1, ha.1.2.1, hz⟩, ha.2⟩, rfl⟩⟩
  | a :: l, j + 1, h, hg => by
    have ha := hg a (by simp)
    have hl : GoodB l := fun x hx => hg x (by simp [hx])
    have cons : ∀ l', GoodB l' → GoodB (a :: l') := fun l' hl' x hx => by
      rcases List.mem_cons.1 hx with e | e
      · subst e; exact ha
      · exact hl' x e
    obtain ⟨h1, h2, h3⟩ := bks_set l j (by simpa using h) hl
    refine ⟨fun z hz => ?_, fun s hs => ?_, fun z hz => ?_⟩
    · obtain ⟨l', e1, e2, e3⟩ := h1 z hz
      refine ⟨a :: l', by simp [e1], cons _ e2, ?_⟩
      rw [show (j + 1) * 3 = j * 3 + 1 + 1 + 1 by omega]
      show Value.int .i64 a.day :: .string a.client :: .int .i64 a.amount :: (bks l).set (j * 3) (.int .i64 z) = _
      rw [e3]; rfl
    · obtain ⟨l', e1, e2, e3⟩ := h2 s hs
      refine ⟨a :: l', by simp [e1], cons _ e2, ?_⟩
      rw [show (j + 1) * 3 + 1 = j * 3 + 1 + 1 + 1 + 1 by omega]
      show Value.int .i64 a.day :: .string a.client :: .int .i64 a.amount :: (bks l).set (j * 3 + 1) (.string s) = _
      rw [e3]; rfl
    · obtain ⟨l', e1, e2, e3⟩ := h3 z hz
      refine ⟨a :: l', by simp [e1], cons _ e2, ?_⟩
      rw [show (j + 1) * 3 + 2 = j * 3 + 2 + 1 + 1 + 1 by omega]
      show Value.int .i64 a.day :: .string a.client :: .int .i64 a.amount :: (bks l).set (j * 3 + 2) (.int .i64 z) = _
      rw [e3]; rfl
/-- What a draw of bookings leaves. -/
def BkDrawn (g k q : Nat) (w : World) (e : Ending) (w' : World) : Prop :=
  ∃ (l : List Bk) (A : Option Addr) (d : Nat), e = .returned (.slice A l.length d) ∧ (l.length ≤ 81 ∧ A ≠ none) ∧ GoodB l ∧ Sl w' w.heap.size w'.heap.size 26 3 A l.length d (bks l) ∧ Src g (k + q) w' ∧ Only g (g + 1) w w'

set_option maxHeartbeats 4000000 in
set_option maxRecDepth 100000 in
theorem l25Draw_any (g k : Nat) (w : World) (h : Src g k w) (hk : k ≤ 10000000000) :
    Calls Tryz.prog 82 #[.pointer (some ⟨g, 0, none⟩)] w fun e w' => BkDrawn g k 1000 w e w' := by
  have hgw := h.lt
  have HSL0 := Lib.hid (Sl.made w 26 3)
  go_enter Tryz.func82, Tryz.ntmps82
  go_wp2_with fail
  refine (pick_any g k 12 _ (h.alloc _) (by omega) ⟨by omega, by omega⟩).mono ?_
  rintro e w1 ⟨x1, rfl, hx1, s1, o1⟩
  have hx1a := hx1.lt (by omega)
  have hx1b := hx1.1
  clear hx1 h
  have z1 := o1.size
  simp at z1
  have HO1 := Lib.hid (show Only g (g + 1) w w1 from (((Only.refl g (g + 1) w).alloc _).trans o1))
  have HSL1 := Lib.hid (HSL0.out.apart o1 (Or.inr (by omega)))
  clear o1
  obtain ⟨N1, rfl⟩ := Int.eq_ofNat_of_zero_le hx1b
  go_wp2_with fail
  refine (one_any g _ 24 _ s1 (by omega) ⟨by omega, by omega⟩).mono ?_
  rintro e w2 ⟨b2, rfl, s2, o2⟩
  have z2 := o2.size
  have HO2 := Lib.hid (HO1.out.trans o2)
  have HSL2 := Lib.hid (HSL1.out.apart o2 (Or.inr (by omega)))
  clear o2 s1
  go_upto_if 12 with fail
  go_cut [5] (fun s5 wx => ∃ N : Nat, N ≤ 81 ∧ s5 = .int .i64 (N : Int) ∧ Src g (k + 6) wx ∧ Only g (g + 1) w wx ∧ Sl wx w.heap.size (w.heap.size + 1) 26 3 (some ⟨w.heap.size, 0, none⟩) 0 0 [] ∧ w.heap.size < wx.heap.size)
  case first =>
    rcases b2 with _ | _
    · go_wp2_with fail
      go_meet
      exact ⟨N1, by omega, rfl, s2.more (by omega), HO2.out, HSL2.out, by omega⟩
    · go_wp2_with fail
      refine (pick_any g _ 2 _ s2 (by omega) ⟨by omega, by omega⟩).mono ?_
      rintro e w3 ⟨x3, rfl, hx3, s3, o3⟩
      have hx3a := hx3.lt (by omega)
      have hx3b := hx3.1
      clear hx3
      have z3 := o3.size
      have HO3 := Lib.hid (HO2.out.trans o3)
      have HSL3 := Lib.hid (HSL2.out.apart o3 (Or.inr (by omega)))
      clear o3 s2
      obtain ⟨N3, rfl⟩ := Int.eq_ofNat_of_zero_le hx3b
      go_wp2_with fail
      go_meet
      exact ⟨80 + N3, by omega, by simp, s3.more (by omega), HO3.out, HSL3.out, by omega⟩
  case rest =>
    obtain ⟨N, hN, rfl, s4, o4, sl4, z4⟩ := hcut
    have HO4 := Lib.hid o4
    have HSL4 := Lib.hid (sl4.wide (Nat.le_refl _) (hi' := wc.heap.size) (by omega))
    clear o4 sl4 HSL0 HSL1 HSL2 HO1 HO2
    go_wp2
    go_loopw [3, 4, 6] (fun o dy i wr => ∃ (l : List Bk) (A : Option Addr) (d r : Nat) (D : Int), (r + l.length = N ∧ A ≠ none) ∧ i = .int .i64 (r : Int) ∧ dy = .int .i64 D ∧ 0 ≤ D ∧ D ≤ 10 * (l.length : Int) ∧ o = .slice A l.length d ∧ GoodB l ∧ Sl wr w.heap.size wr.heap.size 26 3 A l.length d (bks l) ∧ Src g (k + 6 + 10 * l.length) wr ∧ Only g (g + 1) w wr) (fun _ _ i _ => (intOf i).toNat)
    case atStart => exact ⟨[], _, _, N, 0, ⟨by simp, by simp⟩, rfl, rfl, by omega, by simp, rfl, fun x hx => by simp at hx, HSL4.out, s4.more (by simp), HO4.out⟩
    case round =>
      obtain ⟨l, A, d, r, D, hr, rfl, rfl, hD0, hD1, rfl, hgd, hsl, hs, ho⟩ := hrel
      have HSL := Lib.hid hsl
      have HS := Lib.hid hs
      have HO := Lib.hid ho
      have HR := Lib.hid hr
      have HG := Lib.hid hgd
      have hll : l.length ≤ 81 := by have := hr.1; omega
      have zr := ho.size
      clear hsl hs ho hr hgd HSL4 HO4 s4
      rcases Nat.eq_zero_or_pos r with h0 | h0
      · obtain rfl := h0
        go_wp2
        go_ret
        exact ⟨l, A, d, rfl, ⟨hll, HR.out.2⟩, HG.out, HSL.out, HS.out.more (by omega), HO.out⟩
      · obtain ⟨q, rfl⟩ : ∃ q, r = q + 1 := ⟨r - 1, by omega⟩
        clear h0
        have hq1 : q ≤ 81 := by have := HR.out; omega
        go_wp2_with fail
        refine (pick_any g _ 9 _ HS.out (by omega) ⟨by omega, by omega⟩).mono ?_
        rintro e w5 ⟨x5, rfl, hx5, s5, o5⟩
        have hx5a := hx5.lt (by omega)
        have hx5b := hx5.1
        clear hx5
        have z5 := o5.size
        have HO5 := Lib.hid ((HO.out.trans o5).alloc (.cells #[.string ⟨#[98, 97, 110, 107]⟩, .string ⟨#[119, 97, 114, 100]⟩, .string ⟨#[108, 97, 98, 45, 50]⟩] 9))
        have HSL5 := Lib.hid ((HSL.out.apart o5 (Or.inr (by omega))).up (.cells #[.string ⟨#[98, 97, 110, 107]⟩, .string ⟨#[119, 97, 114, 100]⟩, .string ⟨#[108, 97, 98, 45, 50]⟩] 9))
        clear o5
        go_wp2_with fail
        refine (text_any g _ w5.heap.size 3 9 [⟨#[98, 97, 110, 107]⟩, ⟨#[119, 97, 114, 100]⟩, ⟨#[108, 97, 98, 45, 50]⟩] _ (s5.alloc _) (by omega) (Blk.new w5 _ _) rfl (by omega) (by omega) (by omega)).mono ?_
        rintro e w6 ⟨t6, rfl, ht6, s6, o6⟩
        have hts := texts_small.1 ht6
        clear ht6
        have z6 := o6.size
        simp at z6
        have yv := Blk.new w6 26 #[.int .i64 (D + x5), .string t6, .int .i64 0]
        have HOv := Lib.hid ((HO5.out.trans o6).alloc (.cells #[.int .i64 (D + x5), .string t6, .int .i64 0] 26))
        have HSLv := Lib.hid ((HSL5.out.apart o6 (Or.inr (by omega))).up (.cells #[.int .i64 (D + x5), .string t6, .int .i64 0] 26))
        clear o6
        go_wp2_with fail
        refine (pick_any g _ 40 _ (s6.alloc _) (by omega) ⟨by omega, by omega⟩).mono ?_
        rintro e w7 ⟨x7, rfl, hx7, s7, o7⟩
        have hx7a := hx7.lt (by omega)
        have hx7b := hx7.1
        clear hx7 s6
        have z7 := o7.size
        simp at z7
        have y7 := yv.only3 o7 (Or.inr (by omega))
        have HO7 := Lib.hid ((HOv.out.trans o7).far (p := ⟨w6.heap.size, 2, none⟩) (by simp; omega) (.int .i64 (10 * (1 + x7))))
        have HSL7 := Lib.hid ((HSLv.out.apart o7 (Or.inr (by omega))).farSet (p := ⟨w6.heap.size, 2, none⟩) (by simp; omega) (.int .i64 (10 * (1 + x7))))
        have c72 := y7.cellAt 2 (by simp)
        have f72 := y7.frozen 2
        simp only [List.getElem_toArray, List.getElem_cons_zero, List.getElem_cons_succ] at c72
        have y7s := (y7.set_ 2 (.int .i64 (10 * (1 + x7)))).cast3 (cs' := #[.int .i64 (D + x5), .string t6, .int .i64 (10 * (1 + x7))]) rfl
        clear o7 yv y7
        go_wp2_with fail
        refine (one_any g _ 2 _ (s7.set_ (by simp; omega) _) (by omega) ⟨by omega, by omega⟩).mono ?_
        rintro e w8 ⟨b8, rfl, s8, o8⟩
        have z8 := o8.size
        simp [World.setCell] at z8
        have y8 := y7s.only3 o8 (Or.inr (by omega))
        have HO8 := Lib.hid (HO7.out.trans o8)
        have HSL8 := Lib.hid (HSL7.out.apart o8 (Or.inr (by omega)))
        clear o8 y7s s7 c72 f72
        go_upto_if 36 with fail
        go_cut [] (fun wx => ∃ am : Int, I64 am ∧ Blk wx w6.heap.size 26 #[.int .i64 (D + x5), .string t6, .int .i64 am] ∧ Src g (k + 6 + 10 * l.length + 8) wx ∧ Only g (g + 1) w wx ∧ Sl wx w.heap.size wr.heap.size 26 3 A l.length d (bks l) ∧ w8.heap.size ≤ wx.heap.size)
        case first =>
          have c82 := y8.cellAt 2 (by simp)
          have f82 := y8.frozen 2
          simp only [List.getElem_toArray, List.getElem_cons_zero, List.getElem_cons_succ] at c82
          rcases b8 with _ | _
          · go_wp2_with fail
            go_meet
            exact ⟨_, ⟨by omega, by omega⟩, y8, s8.more (by omega), HO8.out, HSL8.out, Nat.le_refl _⟩
          · have y8s := (y8.set_ 2 (.int .i64 (-(10 * (1 + x7))))).cast3 (cs' := #[.int .i64 (D + x5), .string t6, .int .i64 (-(10 * (1 + x7)))]) rfl
            go_wp2_with fail
            go_meet
            exact ⟨_, ⟨by omega, by omega⟩, y8s, (s8.set_ (by simp; omega) _).more (by omega), HO8.out.far (by simp; omega) _, HSL8.out.farSet (by simp; omega) _, by simp [World.setCell]⟩
        case rest =>
          obtain ⟨am, ham, y9, s9, o9, sl9, z9⟩ := hcut
          have d0 := y9.cellAt 0 (by simp)
          have d1 := y9.cellAt 1 (by simp)
          have d2 := y9.cellAt 2 (by simp)
          simp only [List.getElem_toArray, List.getElem_cons_zero, List.getElem_cons_succ] at d0 d1 d2
          have HO9 := Lib.hid o9
          have HSL9 := Lib.hid sl9
          clear y9 y8 o9 sl9 s8
          go_wp2_with (at_builtin; refine wpList_oneF rfl _ _ 24 rfl 26 _ 3 32 Tryz.underlying24 info_bkD rfl (by decide) (by decide) HSL9.out (by omega) rfl (cellsBk ⟨D + x5, t6, am⟩) _ rfl rfl rfl (bk_oneD _) (by omega) ?_; intro A10 d10 w10 sl10 b10 z10 f10 g10; have HSL10 := Lib.hid sl10; have HB10 := Lib.hid b10; clear sl10 b10 f10 g10)
          go_roundw
          case rel => exact ⟨l ++ [⟨D + x5, t6, am⟩], A10, d10, q, D + x5, ⟨by have := HR.out.1; simp; omega, HSL10.out.nn (by omega)⟩, by go_num, rfl, by omega, by simp; omega, by simp, fun x hx => by
              rcases List.mem_append.1 hx with hx | hx
              · exact HG.out x hx
              · rw [List.mem_singleton] at hx; subst hx; exact good_bk ⟨by omega, by omega⟩ ham hts, by have := HSL10.out; rw [bks_snocD] at this; simpa using this, (s9.below HB10.out (by omega)).more (by simp; omega), HO9.out.then HB10.out (by omega)⟩
          case measure => simp [intOf]

end Go.Proofs.YtjmlcobbjpmjpaaGreatDoor
namespace Go.Proofs.YtjmlcobbjpmjpaaGreatDoor
open Go.RowKit

/-- What spoiling leaves: at most one cell of the booking turned. -/
def Spoilt (g k b o : Nat) (w : World) (w' : World) : Prop :=
  ∃ w1, Src g (k + 4) w1 ∧ Only g (g + 1) w w1 ∧ (w' = w1 ∨ (∃ z, I64 z ∧ w' = w1.setCell ⟨b, o, none⟩ (.int .i64 z)) ∨ (∃ s : ByteArray, s.size ≤ 12 ∧ w' = w1.setCell ⟨b, o + 1, none⟩ (.string s)) ∨ (∃ z, I64 z ∧ w' = w1.setCell ⟨b, o + 2, none⟩ (.int .i64 z)))
set_option maxHeartbeats 4000000 in
set_option maxRecDepth 100000 in
theorem l25Spoil_any (g k b o : Nat) (u0 u1 u2 : Value) (w : World) (h : Src g k w) (hk : k ≤ 10000000000) (hgb : g < b) (hb : b < w.heap.size)
    (c0 : w.cell? ⟨b, o, none⟩ = some u0) (c1 : w.cell? ⟨b, o + 1, none⟩ = some u1) (c2 : w.cell? ⟨b, o + 2, none⟩ = some u2) (f0 : w.frozen? ⟨b, o, none⟩ = false) (f1 : w.frozen? ⟨b, o + 1, none⟩ = false) (f2 : w.frozen? ⟨b, o + 2, none⟩ = false) :
    Calls Tryz.prog 61 #[.pointer (some ⟨g, 0, none⟩), .pointer (some ⟨b, o, none⟩)] w fun e w' => e = .returned (.tuple #[]) ∧ Spoilt g k b o w w' := by
  have C0 := Lib.hid c0
  have C1 := Lib.hid c1
  have C2 := Lib.hid c2
  have F0 := Lib.hid f0
  have F1 := Lib.hid f1
  have F2 := Lib.hid f2
  clear c0 c1 c2 f0 f1 f2
  go_enter Tryz.func61, Tryz.ntmps61
  go_wp2_with fail
  refine (pick_any g k 3 _ h (by omega) ⟨by omega, by omega⟩).mono ?_
  rintro e w1 ⟨x1, rfl, hx1, s1, o1⟩
  clear hx1 h
  have z1 := o1.size
  have bq := o1.block b hb (by omega)
  have c10 := (World.cell?_of_block (a := ⟨b, o, none⟩) bq).trans C0.out
  have c11 := (World.cell?_of_block (a := ⟨b, o + 1, none⟩) bq).trans C1.out
  have c12 := (World.cell?_of_block (a := ⟨b, o + 2, none⟩) bq).trans C2.out
  have f10 := (World.frozen?_of_block (a := ⟨b, o, none⟩) bq).trans F0.out
  have f11 := (World.frozen?_of_block (a := ⟨b, o + 1, none⟩) bq).trans F1.out
  have f12 := (World.frozen?_of_block (a := ⟨b, o + 2, none⟩) bq).trans F2.out
  have HO1 := Lib.hid o1
  clear o1 bq

  by_cases h0 : x1 = 0
  · subst h0
    go_wp2_with fail
    refine (among_any g _ w1.heap.size 4 2 [-1, 0, 20000, 20001] _ (s1.alloc _) (by omega) (Blk.new w1 _ _) rfl (by omega) (by omega) (by omega)).mono ?_
    rintro e w2 ⟨z, rfl, hz, s2, o2⟩
    have hzi := show I64 z by simp only [List.mem_cons, List.not_mem_nil, or_false] at hz; unfold I64; omega
    clear hz
    have z2 := o2.size
    simp at z2
    have bk : (w1.alloc (.cells #[.int .i64 (-1), .int .i64 (0), .int .i64 (20000), .int .i64 (20001)] 2)).heap[b]? = w1.heap[b]? := Below.heap_alloc w1 _ b (by omega)
    have bk2 := o2.block b (by simp; omega) (by omega)
    have c2 := (World.cell?_of_block (a := ⟨b, o, none⟩) (bk2.trans bk)).trans c10
    have f2 := (World.frozen?_of_block (a := ⟨b, o, none⟩) (bk2.trans bk)).trans f10
    have HO := Lib.hid ((HO1.out.alloc (.cells #[.int .i64 (-1), .int .i64 (0), .int .i64 (20000), .int .i64 (20001)] 2)).trans o2)
    clear bk bk2 o2
    go_wp2
    go_end0
    exact ⟨rfl, w2, s2.more (by omega), HO.out, .inr (.inl ⟨z, hzi, rfl⟩)⟩
  by_cases h1 : x1 = 1
  · subst h1
    go_wp2_with fail
    refine (text_any g _ w1.heap.size 3 9 [⟨#[]⟩, ⟨#[66, 97, 110, 107]⟩, ⟨#[98, 97, 110, 107]⟩] _ (s1.alloc _) (by omega) (Blk.new w1 _ _) rfl (by omega) (by omega) (by omega)).mono ?_
    rintro e w2 ⟨z, rfl, hz, s2, o2⟩
    have hzi := texts_small.2.1 hz
    clear hz
    have z2 := o2.size
    simp at z2
    have bk : (w1.alloc (.cells #[.string ⟨#[]⟩, .string ⟨#[66, 97, 110, 107]⟩, .string ⟨#[98, 97, 110, 107]⟩] 9)).heap[b]? = w1.heap[b]? := Below.heap_alloc w1 _ b (by omega)
    have bk2 := o2.block b (by simp; omega) (by omega)
    have c2 := (World.cell?_of_block (a := ⟨b, o + 1, none⟩) (bk2.trans bk)).trans c11
    have f2 := (World.frozen?_of_block (a := ⟨b, o + 1, none⟩) (bk2.trans bk)).trans f11
    have HO := Lib.hid ((HO1.out.alloc (.cells #[.string ⟨#[]⟩, .string ⟨#[66, 97, 110, 107]⟩, .string ⟨#[98, 97, 110, 107]⟩] 9)).trans o2)
    clear bk bk2 o2
    go_wp2
    go_end0
    exact ⟨rfl, w2, s2.more (by omega), HO.out, .inr (.inr (.inl ⟨z, hzi, rfl⟩))⟩
  by_cases h2 : x1 = 2
  · subst h2
    go_wp2_with fail
    refine (among_any g _ w1.heap.size 7 2 [0, 1, -1000000001, -1000000000, 1000000000, 1000000001, -9223372036854775808] _ (s1.alloc _) (by omega) (Blk.new w1 _ _) rfl (by omega) (by omega) (by omega)).mono ?_
    rintro e w2 ⟨z, rfl, hz, s2, o2⟩
    have hzi := show I64 z by simp only [List.mem_cons, List.not_mem_nil, or_false] at hz; unfold I64; omega
    clear hz
    have z2 := o2.size
    simp at z2
    have bk : (w1.alloc (.cells #[.int .i64 (0), .int .i64 (1), .int .i64 (-1000000001), .int .i64 (-1000000000), .int .i64 (1000000000), .int .i64 (1000000001), .int .i64 (-9223372036854775808)] 2)).heap[b]? = w1.heap[b]? := Below.heap_alloc w1 _ b (by omega)
    have bk2 := o2.block b (by simp; omega) (by omega)
    have c2 := (World.cell?_of_block (a := ⟨b, o + 2, none⟩) (bk2.trans bk)).trans c12
    have f2 := (World.frozen?_of_block (a := ⟨b, o + 2, none⟩) (bk2.trans bk)).trans f12
    have HO := Lib.hid ((HO1.out.alloc (.cells #[.int .i64 (0), .int .i64 (1), .int .i64 (-1000000001), .int .i64 (-1000000000), .int .i64 (1000000000), .int .i64 (1000000001), .int .i64 (-9223372036854775808)] 2)).trans o2)
    clear bk bk2 o2
    go_wp2
    go_end0
    exact ⟨rfl, w2, s2.more (by omega), HO.out, .inr (.inr (.inr ⟨z, hzi, rfl⟩))⟩
  · have h0' : (x1 == 0) = false := by rw [beq_eq_false_iff_ne]; exact h0
    have h1' : (x1 == 1) = false := by rw [beq_eq_false_iff_ne]; exact h1
    have h2' : (x1 == 2) = false := by rw [beq_eq_false_iff_ne]; exact h2
    go_wp2
    go_end0
    exact ⟨rfl, w1, s1.more (by omega), HO1.out, .inl rfl⟩

set_option maxHeartbeats 4000000 in
set_option maxRecDepth 100000 in
theorem l25Bent_any (g k : Nat) (w : World) (h : Src g k w) (hk : k ≤ 1000000000) :
    Calls Tryz.prog 58 #[.pointer (some ⟨g, 0, none⟩)] w fun e w' => BkDrawn g k 1010 w e w' := by
  have hgw := h.lt
  go_enter Tryz.func58, Tryz.ntmps58
  go_wp2_with fail
  refine (l25Draw_any g k _ h (by omega)).mono ?_
  rintro e w1 ⟨l, A, d, rfl, hl, hgd, sl1, s1, o1⟩
  have z1 := o1.size
  have HO1 := Lib.hid o1
  have HSL1 := Lib.hid sl1
  have HG := Lib.hid hgd
  clear o1 sl1 hgd h
  rcases Nat.eq_zero_or_pos l.length with h0 | h0
  · have hd0 : decide ((0 : Int) < (l.length : Int)) = false := by rw [decide_eq_false_iff_not]; omega
    have hd1 : decide (0 < l.length) = false := by rw [decide_eq_false_iff_not]; omega
    clear h0
    go_wp2
    go_ret
    exact ⟨l, A, d, rfl, hl, HG.out, HSL1.out, s1.more (by omega), HO1.out⟩
  · have hd0 : decide ((0 : Int) < (l.length : Int)) = true := by rw [decide_eq_true_iff]; omega
    obtain ⟨go, rfl, hgo1, hgo2, hgo3⟩ := HSL1.out.lt h0
    go_wp2_with fail
    refine (one_any g _ 10 _ s1 (by omega) ⟨by omega, by omega⟩).mono ?_
    rintro e w2 ⟨b2, rfl, s2, o2⟩
    have z2 := o2.size
    have HO2 := Lib.hid (HO1.out.trans o2)
    have HSL2 := Lib.hid (HSL1.out.apart o2 (Or.inr (by omega)))
    clear o2 s1
    rcases b2 with _ | _
    · go_wp2
      go_ret
      exact ⟨l, _, d, rfl, hl, HG.out, HSL2.out.wide (Nat.le_refl _) (by omega), s2.more (by omega), HO2.out⟩
    · go_wp2_with fail
      refine (pick_any g _ l.length _ s2 (by omega) ⟨by omega, by omega⟩).mono ?_
      rintro e w3 ⟨x3, rfl, hx3, s3, o3⟩
      have hx3a := hx3.lt (by omega)
      have hx3b := hx3.1
      clear hx3 s2
      have z3 := o3.size
      have HO3 := Lib.hid (HO2.out.trans o3)
      have HSL3 := Lib.hid (HSL2.out.apart o3 (Or.inr (by omega)))
      clear o3
      obtain ⟨j, rfl⟩ := Int.eq_ofNat_of_zero_le hx3b
      have hj : j < l.length := by omega
      obtain ⟨e0, e1, e2⟩ := bks_get (List.getElem?_eq_getElem hj)
      have q0 := (HSL3.out.cellAt (j * 3) (by omega)).trans e0
      have q1 := (HSL3.out.cellAt (j * 3 + 1) (by omega)).trans e1
      have q2 := (HSL3.out.cellAt (j * 3 + 2) (by omega)).trans e2
      have hj0 : (0 : Int) ≤ j := by omega
      clear e0 e1 e2
      go_wp2_with fail
      refine (l25Spoil_any g _ go (j * 3) _ _ _ _ s3 (by omega) (by omega) (by omega) q0 q1 q2 (HSL3.out.frozenAt _) (HSL3.out.frozenAt _) (HSL3.out.frozenAt _)).mono ?_
      rintro e w5 ⟨rfl, w4, s4, o4, hw5⟩
      have z4 := o4.size
      have HO4 := Lib.hid (HO3.out.trans o4)
      have HSL4 := Lib.hid (HSL3.out.apart o4 (Or.inr (by omega)))
      clear q0 q1 q2 o4 s3
      obtain ⟨b1, b2, b3⟩ := bks_set l j hj HG.out
      have key : BkDrawn g k 1010 w (.returned (.slice (some ⟨go, 0, none⟩) l.length d)) w5 := by
        rcases hw5 with rfl | ⟨z, hz, rfl⟩ | ⟨z, hz, rfl⟩ | ⟨z, hz, rfl⟩
        · exact ⟨l, _, d, rfl, hl, HG.out, HSL4.out.wide (Nat.le_refl _) (by omega), s4.more (by omega), HO4.out⟩
        · obtain ⟨l', e1, e2, e3⟩ := b1 z hz
          refine ⟨l', some ⟨go, 0, none⟩, d, by rw [e1], ⟨by omega, by simp⟩, e2, ?_, (s4.set_ (by simp; omega) _).more (by omega), HO4.out.far (by simp; omega) _⟩
          have := (HSL4.out.set_ (j * 3) (.int .i64 z)).wide (Nat.le_refl _) (hi' := (w4.setCell ⟨go, j * 3, none⟩ (.int .i64 z)).heap.size) (by simp [World.setCell]; omega)
          rw [e3] at this; rw [e1]; exact this
        · obtain ⟨l', e1, e2, e3⟩ := b2 z hz
          refine ⟨l', some ⟨go, 0, none⟩, d, by rw [e1], ⟨by omega, by simp⟩, e2, ?_, (s4.set_ (by simp; omega) _).more (by omega), HO4.out.far (by simp; omega) _⟩
          have := (HSL4.out.set_ (j * 3 + 1) (.string z)).wide (Nat.le_refl _) (hi' := (w4.setCell ⟨go, j * 3 + 1, none⟩ (.string z)).heap.size) (by simp [World.setCell]; omega)
          rw [e3] at this; rw [e1]; exact this
        · obtain ⟨l', e1, e2, e3⟩ := b3 z hz
          refine ⟨l', some ⟨go, 0, none⟩, d, by rw [e1], ⟨by omega, by simp⟩, e2, ?_, (s4.set_ (by simp; omega) _).more (by omega), HO4.out.far (by simp; omega) _⟩
          have := (HSL4.out.set_ (j * 3 + 2) (.int .i64 z)).wide (Nat.le_refl _) (hi' := (w4.setCell ⟨go, j * 3 + 2, none⟩ (.int .i64 z)).heap.size) (by simp [World.setCell]; omega)
          rw [e3] at this; rw [e1]; exact this
      have KEY := Lib.hid key
      clear key hw5 b1 b2 b3 s4
      go_wp2
      go_ret
      exact KEY.out
theorem l25Client_any (g k : Nat) (w : World) (h : Src g k w) (hk : k ≤ 10000000000) :
    Calls Tryz.prog 139 #[.pointer (some ⟨g, 0, none⟩)] w fun e w' => ∃ s : ByteArray, e = .returned (.string s) ∧ s.size ≤ 12 ∧ Src g (k + 2) w' ∧ Only g (g + 1) w w' := by
  have hgw := h.lt
  go_enter Tryz.func139, Tryz.ntmps139
  go_wp2_with fail
  refine (text_any g _ w.heap.size 7 9 [⟨#[98, 97, 110, 107]⟩, ⟨#[98, 97, 110, 107]⟩, ⟨#[119, 97, 114, 100]⟩, ⟨#[108, 97, 98, 45, 50]⟩, ⟨#[110, 111, 110, 101]⟩, ⟨#[]⟩, ⟨#[66, 97, 110, 107]⟩] _ (h.alloc _) (by omega) (Blk.new w _ _) rfl (by omega) (by omega) (by omega)).mono ?_
  rintro e w1 ⟨s, rfl, hs, s1, o1⟩
  have hss := texts_small.2.2 hs
  have HO := Lib.hid (((Only.refl g (g + 1) w).alloc (.cells #[.string ⟨#[98, 97, 110, 107]⟩, .string ⟨#[98, 97, 110, 107]⟩, .string ⟨#[119, 97, 114, 100]⟩, .string ⟨#[108, 97, 98, 45, 50]⟩, .string ⟨#[110, 111, 110, 101]⟩, .string ⟨#[]⟩, .string ⟨#[66, 97, 110, 107]⟩] 9)).trans o1)
  clear hs o1
  go_wp2
  go_ret
  exact ⟨s, rfl, hss, s1, HO.out⟩
theorem l25DrawDay_any (g k : Nat) (w : World) (h : Src g k w) (hk : k ≤ 10000000000) :
    Calls Tryz.prog 140 #[.pointer (some ⟨g, 0, none⟩)] w fun e w' => ∃ x : Int, e = .returned (.int .i64 x) ∧ I64 x ∧ Src g (k + 4) w' ∧ Only g (g + 1) w w' := by
  have hgw := h.lt
  go_enter Tryz.func140, Tryz.ntmps140
  go_wp2_with fail
  refine (one_any g _ 10 _ h (by omega) ⟨by omega, by omega⟩).mono ?_
  rintro e w1 ⟨b1, rfl, s1, o1⟩
  have z1 := o1.size
  have HO1 := Lib.hid o1
  clear o1 h
  rcases b1 with _ | _
  · go_wp2_with fail
    refine (pick_any g _ 100 _ s1 (by omega) ⟨by omega, by omega⟩).mono ?_
    rintro e w2 ⟨x, rfl, hx, s2, o2⟩
    have HX := Lib.hid (show I64 x from ⟨by have := hx.1; omega, by have := hx.2.2.2; omega⟩)
    have HO2 := Lib.hid (HO1.out.trans o2)
    clear hx o2
    go_wp2
    go_ret
    exact ⟨x, rfl, HX.out, s2, HO2.out⟩
  · go_wp2_with fail
    refine (among_any g _ w1.heap.size 4 2 [-1, 0, 20001, -9223372036854775808] _ (s1.alloc _) (by omega) (Blk.new w1 _ _) rfl (by omega) (by omega) (by omega)).mono ?_
    rintro e w2 ⟨x, rfl, hx, s2, o2⟩
    have HX := Lib.hid (show I64 x by simp only [List.mem_cons, List.not_mem_nil, or_false] at hx; unfold I64; omega)
    have HO2 := Lib.hid ((HO1.out.alloc (.cells #[.int .i64 (-1), .int .i64 (0), .int .i64 (20001), .int .i64 (-9223372036854775808)] 2)).trans o2)
    clear hx o2
    go_wp2
    go_ret
    exact ⟨x, rfl, HX.out, s2, HO2.out⟩
/-- Bookings, as the laws draw them. -/
def BksOut (w : World) (l : List Bk) (A : Option Addr) (d : Nat) (w' : World) : Prop := (l.length ≤ 81 ∧ A ≠ none) ∧ GoodB l ∧ Sl w' w.heap.size w'.heap.size 26 3 A l.length d (bks l) ∧ Below w.heap.size w w'
set_option maxRecDepth 100000 in
theorem l25Ask_any (A : Option Addr) (n c : Nat) (bs : List Int) (w : World) (h : Reads w w.heap.size 1 A n (byts bs)) (hb : ∀ x ∈ bs, Byt x) (hn : n ≤ 9223372036854775807) :
    Calls Tryz.prog 69 #[.slice A n c] w fun e w' => ∃ (l : List Bk) (A' : Option Addr) (d : Nat) (s : ByteArray) (x : Int), e = .returned (.tuple #[.slice A' l.length d, .string s, .int .i64 x]) ∧ s.size ≤ 12 ∧ I64 x ∧ BksOut w l A' d w' := by
  have HH := Lib.hid h
  have HB := Lib.hid hb
  clear h hb
  go_enter Tryz.func69, Tryz.ntmps69
  go_wp2_with fail
  refine (l00From_any A n c bs _ HH.out HB.out hn).mono ?_
  rintro e w1 ⟨rfl, s1, b1, z1⟩
  go_wp2_with fail
  refine (l25Bent_any _ 0 _ s1 (by omega)).mono ?_
  rintro e w2 ⟨l, A', d, rfl, hl, hgd, sl, s2, o2⟩
  have z2 := o2.size
  have HG := Lib.hid hgd
  clear hgd
  go_wp2_with fail
  refine (l25Client_any _ _ _ s2 (by omega)).mono ?_
  rintro e w3 ⟨s, rfl, hss, s3, o3⟩
  have z3 := o3.size
  go_wp2_with fail
  refine (l25DrawDay_any _ _ _ s3 (by omega)).mono ?_
  rintro e w4 ⟨x, rfl, hx, s4, o4⟩
  have z4 := o4.size
  have HSL := Lib.hid ((((sl.apart o3 (Or.inr (by omega))).apart o4 (Or.inr (by omega))).wide (lo' := w.heap.size) (by omega) (hi' := w4.heap.size) (by omega)))
  have HBel := Lib.hid (b1.trans (((o2.trans o3).trans o4).below (Nat.le_refl _) (by omega)))
  clear sl o2 o3 o4 b1
  go_wp2
  refine bodyPost_ret (v := .tuple #[.slice A' l.length d, .string s, .int .i64 x]) (by simp [results, Tryz.results69, go_sem]) rfl ?_
  exact ⟨l, A', d, s, x, rfl, hss, hx, hl, HG.out, HSL.out, HBel.out⟩
end Go.Proofs.YtjmlcobbjpmjpaaGreatDoor
