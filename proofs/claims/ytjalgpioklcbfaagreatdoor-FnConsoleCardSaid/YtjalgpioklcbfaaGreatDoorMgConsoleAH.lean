/- All runs tested by the program. Parts of the reference's reading of a log. A client read from a text: the plain law. Entries that are drawn. A log that was made gives back its entries: the plain law. -/
import Derived.Test.YtjalgpioklcbfaaGreatDoorMgConsoleAG
import Derived.Test.YtjalgpioklcbfaaGreatDoorMgConsoleAF
import Derived.Test.YtjalgpioklcbfaaGreatDoorMgConsoleAA
import Derived.Test.YtjalgpioklcbfaaGreatDoorKNumS
import Derived.Test.YtjalgpioklcbfaaGreatDoorMgConsoleAB
import Derived.Deep.RegionHeld3
import Derived.IntWalk
import Derived.Test.YtjalgpioklcbfaaGreatDoorMgConsoleAE
import Derived.Test.YtjalgpioklcbfaaGreatDoorKDec
import Derived.Test.YtjalgpioklcbfaaGreatDoorMgConsoleAC
set_option linter.unusedVariables false
set_option linter.unusedSimpArgs false
namespace Go.Proofs.YtjalgpioklcbfaaGreatDoor
open Go.RowKit

theorem indexFuncRn_any (P : Option Addr) (m d : Nat) (ts : List Int) (A : Option Addr) (n c B g : Nat) (rs : List Rn) (w : World) (h : RunsR w B A n rs) (hB : B ≤ w.heap.size) (hn : n ≤ 1048576) (hsm : SmallR rs) (hm : m ≤ 1048576) (hts : ts.length = m) (k0 : w.cell? ⟨g, 0, none⟩ = some (.slice P m d)) :
    Calls Tryz.prog 194 #[.slice A n c, .func (.func 134) #[] #[.pointer (some ⟨g, 0, none⟩)]] w fun e w' => e = .returned (.int .i64 (idxI (fun x => !okRun ts x) rs)) ∧ Below w.heap.size w w' := by
  have hl := Lib.hid h.len
  have HSM := Lib.hid hsm
  clear hsm
  go_enter Tryz.func194, Tryz.ntmps194
  go_wp2
  go_loopw [8] (fun i wr => ∃ k : Nat, k ≤ n ∧ i = .int .i64 k ∧ AllTo (okRun ts) rs k ∧ Below w.heap.size w wr) (fun i _ => n - (RowKit.intOf i).toNat)
  case atStart => exact ⟨0, Nat.zero_le _, rfl, AllTo.zero _ _, Below.refl _ _⟩
  case round =>
    obtain ⟨k, hk, rfl, hall, hbel⟩ := hrel
    have HA := Lib.hid hall
    have HB := Lib.hid hbel
    have z0 := cell_on hbel k0
    clear hall
    by_cases hlt : k < n
    · obtain ⟨x, b, off, P', m', d', he, rfl, hb, c0, c1, hr, hm'⟩ := run_at (h.on hB hbel) hlt
      have hm2 : m' ≤ 1048576 := by have := HSM.out k x he; have := ints_len hr; omega
      have HE := Lib.hid he
      have hBw := Nat.le_trans hB hbel.size
      have HR := Lib.hid hr
      clear he hbel h hr
      go_wp2_with fail
      refine (validRuns1_any P m d ts P' m' d' B g x _ HR.out hBw hm2 hm hts z0).mono ?_
      rintro e w1 ⟨rfl, b1⟩
      have HF := Lib.hid (bnext HB.out b1 (Nat.le_refl _))
      clear b1 c0 c1 z0
      rcases ho : okRun ts x with _ | _
      · have HO := Lib.hid (show idxI (fun x => !okRun ts x) rs = k from idxI_found HE.out (by simp [ho]) (HA.out.imp fun x hx => by simp [hx]))
        go_wp2
        go_ret
        exact ⟨ret_int HO.out.symm, HF.out⟩
      · have HO := Lib.hid ho
        go_wp2
        go_roundw
        case rel => exact ⟨k + 1, by omega, by go_num, HA.out.step HE.out HO.out, HF.out⟩
        case measure => simp [RowKit.intOf]; omega
    · obtain rfl : k = n := by omega
      have HO := Lib.hid (show idxI (fun x => !okRun ts x) rs = -1 from idxI_none (HA.out.imp fun x hx => by simp [hx]) hl.out)
      go_wp2
      go_ret
      exact ⟨ret_int HO.out.symm, HB.out⟩
theorem containsFuncRn_any (P : Option Addr) (m d : Nat) (ts : List Int) (A : Option Addr) (n c B g : Nat) (rs : List Rn) (w : World) (h : RunsR w B A n rs) (hB : B ≤ w.heap.size) (hn : n ≤ 1048576) (hsm : SmallR rs) (hm : m ≤ 1048576) (hts : ts.length = m) (k0 : w.cell? ⟨g, 0, none⟩ = some (.slice P m d)) :
    Calls Tryz.prog 133 #[.slice A n c, .func (.func 134) #[] #[.pointer (some ⟨g, 0, none⟩)]] w fun e w' => e = .returned (.bool (!rs.all (okRun ts))) ∧ Below w.heap.size w w' := by
  have HO := Lib.hid (show decide (0 ≤ idxI (fun x => !okRun ts x) rs) = !rs.all (okRun ts) from by rw [idxI_nonneg]; simp [List.any_eq_not_all_not])
  go_enter Tryz.func133, Tryz.ntmps133
  go_wp2_with fail
  refine (indexFuncRn_any P m d ts A n c B g rs w h hB hn hsm hm hts k0).mono ?_
  rintro e w1 ⟨rfl, b1⟩
  go_wp2
  go_ret
  exact ⟨ret_bool HO.out, b1⟩

set_option maxHeartbeats 1000000 in
theorem implValidRuns_any (P : Option Addr) (m d : Nat) (ts : List Int) (A : Option Addr) (n c B : Nat) (rs : List Rn) (w : World) (ht : Reads w B 1 P m (ints ts)) (h : RunsR w B A n rs) (hB : B ≤ w.heap.size) (hm : m ≤ 1048576) (hn : n ≤ 1048576) (hsm : SmallR rs) :
    Calls Tryz.prog 71 #[.slice P m d, .slice A n c] w fun e w' => e = .returned (.bool (okRuns ts rs)) ∧ Below w.heap.size w w' := by
  have HT := Lib.hid (ints_len ht)
  have HL := Lib.hid h.len
  obtain ⟨W, hW, y0, hb⟩ : ∃ W, W = w.alloc (.cells #[.slice P m d] 29) ∧ Blk W w.heap.size 29 #[.slice P m d] ∧ Below w.heap.size w W := ⟨_, rfl, Blk.new _ _ _, (Below.refl _ _).alloc (Nat.le_refl _) _⟩
  have HW := Lib.hid hW
  have HB := Lib.hid hb
  have HY := Lib.hid y0
  have HX := Lib.hid (ht.on hB hb)
  have HR := Lib.hid (h.on hB hb)
  clear hW hb y0 ht h
  go_enter Tryz.func71, Tryz.ntmps71
  go_wp2_with fail
  rw [← HW.out]
  refine (validTimes_any P m d B ts W HX.out (Nat.le_trans hB HB.out.size) hm).mono ?_
  rintro e w1 ⟨rfl, b1⟩
  have HB1 := Lib.hid (bnext HB.out b1 (Nat.le_refl _))
  have c0 := (HY.out.on b1).cellAt 0 (by simp)
  have HR1 := Lib.hid (HR.out.on (Nat.le_trans hB HB.out.size) b1)
  simp only [List.getElem_toArray, List.getElem_cons_zero] at c0
  clear b1
  rcases e1 : okTimes ts with _ | _
  · have HO := Lib.hid (show okRuns ts rs = false by simp [okRuns, e1])
    go_wp2
    go_ret
    exact ⟨ret_bool HO.out.symm, HB1.out⟩
  by_cases h12 : n ≤ 12
  · have HO := Lib.hid (show okRuns ts rs = rs.all (okRun ts) by simp [okRuns, e1, HL.out, h12])
    go_wp2_with fail
    refine (containsFuncRn_any P m d ts A n c B w.heap.size rs w1 HR1.out (Nat.le_trans hB HB1.out.size) hn hsm hm HT.out c0).mono ?_
    rintro e w2 ⟨rfl, b2⟩
    go_wp2
    go_ret
    exact ⟨ret_bool (by rw [HO.out]; try simp), bnext HB1.out b2 (Nat.le_refl _)⟩
  · have HO := Lib.hid (show okRuns ts rs = false by simp [okRuns, e1, HL.out, h12])
    go_wp2
    go_ret
    exact ⟨ret_bool HO.out.symm, HB1.out⟩
end Go.Proofs.YtjalgpioklcbfaaGreatDoor
namespace Go.Proofs.YtjalgpioklcbfaaGreatDoor
open Go.RowKit Go.Lib

theorem Sl.setNe {w : World} {lo hi : Nat} {t : TypeId} {size : Nat} {A : Option Addr} {n c : Nat} {xs : List Value} (h : Sl w lo hi t size A n c xs) {p : Addr} (hne : ∀ ad, A = some ad → ad.block ≠ p.block) (u : Value) : Sl (w.setCell p u) lo hi t size A n c xs := by
  refine ⟨⟨h.1.1, ?_⟩, h.2⟩
  rcases h.1.2 with hn | ⟨g, cap, cur, h', hb, hg, rest⟩
  · exact .inl hn
  · refine .inr ⟨g, cap, cur, h', hb, ?_, rest⟩
    injection h' with h1
    rw [Below.heap_setCell w p u g (hne _ h1)]
    exact hg
/-- One element appended: what stands, block by block. -/
theorem wp_slOneF {P : Program} {o : Oper} {a : Act} {Q : Exit → Act → World → Prop} {K : Act → World → Prop} (s x : Operand) (t : TypeId)
    (ho : o.op = .call { callee := .builtin .append, args := #[s, x], argTypes := #[t, t] })
    (e : TypeId) (zv : Value) (size bytes : Nat) (ht : P.underlying t = some (.slice e)) (hinfo : (P.info? e).map (fun i => (i.zero, i.size, i.bytes)) = some (some zv, size, bytes)) (hzs : zv.cells.size = size) (hsz : 0 < size) (hb : bytes ≤ 1000)
    {lo hi : Nat} {wr : World} {A : Option Addr} {m c : Nat} {xs : List Value} (h : Sl wr lo hi e size A m c xs) (hlo : lo ≤ wr.heap.size) (hs : a.eval s = .slice A m c)
    (news : List Value) (hd : Nat) (hhd : hd = wr.heap.size) (hx : a.eval x = .slice (some ⟨hd, 0, none⟩) 1 1) (hl : news.length = size) (h1 : ∀ u ∈ news, u.oneCell' = true) (hm : m < 100000000)
    (HK : ∀ A' c' w1, Sl w1 lo w1.heap.size e size A' (m + 1) c' (xs ++ news) → Below lo wr w1 → (∀ g, g < wr.heap.size → (∀ ad, A = some ad → ad.block ≠ g) → w1.heap[g]? = wr.heap[g]?) → (∀ g, g < wr.heap.size → (∀ ad, A = some ad → ad.block ≠ g) → ∀ ad, A' = some ad → ad.block ≠ g) → K (a.put o.dst (.slice A' (m + 1) c')) w1) : o.wp P a (wr.alloc (.cells news.toArray e)) K Q := by
  subst hhd
  obtain ⟨i, hi', hz, hsize, hby⟩ := info_parts hinfo
  have hAb : ∀ ad, A = some ad → lo ≤ ad.block := fun ad had => by
    rcases h.form with ⟨h0, _⟩ | ⟨g, cur, hg, h2, _⟩
    · rw [h0] at had; cases had
    · rw [hg] at had; injection had with had; subst had; exact h2
  have hown : (wr.alloc (.cells news.toArray e)).ownsRow lo e size (.slice A m c) m xs := h.1.alloc _
  obtain ⟨v', w', hr, h2, h3, h4, h5⟩ := run_append_own_at (P := P) (wr.alloc (.cells news.toArray e)) lo t o.type e i zv size bytes ht hi' hz hsize hby hzs hsz _ m xs hown ⟨wr.heap.size, 0, none⟩ 1 1 news (by omega) (news_at wr news e) h1 (by unfold maxLen; omega) (by
    calc (m + 1) * bytes ≤ 100000000 * 1000 := Nat.mul_le_mul (by omega) hb
      _ ≤ 140737488355328 := by decide) (by simp; omega)
  unfold Oper.wp execOp
  simp only [ho, resolve, invoke, builtin, Sem.run_bind, Sem.run_pure, Result.andThen_ok, List.map_toArray, List.map_cons, List.map_nil, hs, hx, hr]
  have hfr : ∀ g, g < wr.heap.size → (∀ ad, A = some ad → ad.block ≠ g) → w'.heap[g]? = wr.heap[g]? := fun k hk hne => by
    rw [h3.block k (by simp; omega) (fun ee => ?_), Below.heap_alloc wr _ k (by omega)]
    cases A with
    | none => simp [Value.ownBlock] at ee
    | some ad =>
      simp [Value.ownBlock] at ee
      exact hne ad rfl ee.symm
  have hbel : Below lo wr w' := by
    refine ⟨h3.os, h3.tape, h3.output, ?_, fun k hk => hfr k (by omega) (fun ad had => by have := hAb ad had; omega)⟩
    have := h3.size; simp at this; omega
  rcases h2.2 with ⟨hv, hn⟩ | ⟨g, cap, cur, hv, hb', hgg, hrest'⟩
  · omega
  · subst hv
    refine HK _ _ _ ⟨h2, fun ad had => by injection had with had; subst had; exact (Array.getElem?_eq_some_iff.1 hgg).1⟩ hbel hfr (fun g' hg' hne ad had => ?_)
    injection had with had
    subst had
    rcases h5 with h5 | h5
    · cases A with
      | none => simp [Value.ownBlock] at h5
      | some ad =>
        simp [Value.ownBlock] at h5
        have := hne ad rfl
        simp; omega
    · simp [Value.ownBlock] at h5
      simp; omega
theorem step_slOneF {P : Program} {ops : Array Oper} {o : Oper} {a : Act} {Q : Exit → Act → World → Prop} {K : Act → World → Prop} {E : Prop} (hgd : o.guard = none) (s x : Operand) (t : TypeId)
    (ho : o.op = .call { callee := .builtin .append, args := #[s, x], argTypes := #[t, t] })
    (e : TypeId) (zv : Value) (size bytes : Nat) (ht : P.underlying t = some (.slice e)) (hinfo : (P.info? e).map (fun i => (i.zero, i.size, i.bytes)) = some (some zv, size, bytes)) (hzs : zv.cells.size = size) (hsz : 0 < size) (hb : bytes ≤ 1000)
    {lo hi : Nat} {wr : World} {A : Option Addr} {m c : Nat} {xs : List Value} (h : Sl wr lo hi e size A m c xs) (hlo : lo ≤ wr.heap.size) (hs : a.eval s = .slice A m c)
    (news : List Value) (hd : Nat) (hhd : hd = wr.heap.size) (hx : a.eval x = .slice (some ⟨hd, 0, none⟩) 1 1) (hl : news.length = size) (h1 : ∀ u ∈ news, u.oneCell' = true) (hm : m < 100000000)
    (HK : ∀ A' c' w1, Sl w1 lo w1.heap.size e size A' (m + 1) c' (xs ++ news) → Below lo wr w1 → (∀ g, g < wr.heap.size → (∀ ad, A = some ad → ad.block ≠ g) → w1.heap[g]? = wr.heap[g]?) → (∀ g, g < wr.heap.size → (∀ ad, A = some ad → ad.block ≠ g) → ∀ ad, A' = some ad → ad.block ≠ g) → K (a.put o.dst (.slice A' (m + 1) c')) w1) :
    if Region.wanted o (yielded ops a.tmps) = true then Oper.wp P o a (wr.alloc (.cells news.toArray e)) K Q else E := by
  have hw : Region.wanted o (yielded ops a.tmps) = true := by simp [Region.wanted, hgd]
  rw [if_pos hw]
  exact wp_slOneF s x t ho e zv size bytes ht hinfo hzs hsz hb h hlo hs news hd hhd hx hl h1 hm HK

set_option maxHeartbeats 4000000 in
set_option maxRecDepth 100000 in
theorem l27Line_any (st : Int) (x : En) (b : Nat) (w : World) (hx : okEn x = true) (h0 : 0 ≤ st) (h1 : st ≤ 65518) (q0 : w.cell? ⟨b, 0, none⟩ = some (.int .i64 x.day)) (q1 : w.cell? ⟨b, 1, none⟩ = some (.string x.what)) (q2 : w.cell? ⟨b, 2, none⟩ = some (.int .i64 x.val)) :
    Calls Tryz.prog 232 #[.int .i64 st, .pointer (some ⟨b, 0, none⟩)] w fun e w' => e = .returned (.string (lineB st x)) ∧ Below w.heap.size w w' := by
  have hws := wordsB_small hx
  have hgd := okEn_good hx
  have hsm := okEn_small hx
  have hs2 : (asBytes (itoa st)).size ≤ 20 := by rw [asBytes_size]; exact itoa_len (by omega) (by omega)
  have n1 : ¬ (9223372036854775807 < (wordsB x).size + 1) := by omega
  have n2 : ¬ (9223372036854775807 < (wordsB x).size + 1 + (asBytes (itoa st)).size) := by omega
  have n3 : ¬ (9223372036854775807 < (wordsB x).size + 1 + (asBytes (itoa st)).size + 1) := by omega
  go_enter Tryz.func232, Tryz.ntmps232
  go_wp2_with fail
  refine (l27Words_any x b _ hgd hsm q0 q1 q2).mono ?_
  rintro e w1 ⟨rfl, b1⟩
  have HB1 := Lib.hid b1
  clear b1
  go_wp2_with fail
  refine (l01Dec_any st _ (by omega) (by omega)).mono ?_
  rintro e w2 ⟨rfl, b2⟩
  have HF := Lib.hid (bnext HB1.out b2 (Nat.le_refl _))
  clear b2
  go_wp2
  go_ret
  exact ⟨rfl, HF.out⟩

/-- The struct that the reference reads a log with lies in block g; its list lies elsewhere, from block lo on. -/
def LRec (lo g : Nat) (s : ByteArray) (w : World) (r : LogR) : Prop :=
  ∃ (A : Option Addr) (n d : Nat), Blk w g 213 #[.string s, .int .i64 (r.at_ : Int), .int .i64 r.stamp, .slice A n d] ∧ Sl w lo w.heap.size 145 3 A n d (ens r.list) ∧ (∀ ad, A = some ad → ad.block ≠ g) ∧ lo ≤ g
theorem LRec.on {lo g : Nat} {s : ByteArray} {w w' : World} {r : LogR} (h : LRec lo g s w r) (hb : Below w.heap.size w w') : LRec lo g s w' r := by
  obtain ⟨A, n, d, h1, h2, h3, h4⟩ := h
  exact ⟨A, n, d, h1.on hb, (h2.on hb).low, h3, h4⟩

set_option maxHeartbeats 4000000 in
set_option maxRecDepth 100000 in
theorem l27Day2_any (lo g : Nat) (s : ByteArray) (r : LogR) (w : World) (h : LRec lo g s w r) (hok : r.ok) (hn : r.at_ ≤ 1048576) :
    Calls Tryz.prog 231 #[.pointer (some ⟨g, 0, none⟩)] w fun e w' => e = .returned (.int .i64 (dayR r.list)) ∧ ∃ m, w' = w.drewN m := by
  obtain ⟨A, n, d, hb, hs, hne, hlo⟩ := h
  have q3 : w.cell? ⟨g, 3, none⟩ = some (.slice A n d) := hb.cellAt 3 (by simp)
  have hln : r.list.length = n := by have := hs.len; rw [ens_length] at this; omega
  have hn1 : n ≤ 1048576 := by have := hok.len; omega
  by_cases h0 : n = 0
  · have HO := Lib.hid (show dayR r.list = 0 by rw [List.length_eq_zero_iff.1 (hln.trans h0), dayR_nil])
    have hz0 : ((n : Int) == 0) = true := by rw [h0]; rfl
    clear hb hs hne
    go_enter Tryz.func231, Tryz.ntmps231
    go_wp2
    go_ret
    exact ⟨ret_int HO.out.symm, 0, rfl⟩
  · obtain ⟨j, rfl⟩ : ∃ j, n = j + 1 := ⟨n - 1, by omega⟩
    obtain ⟨y, lb, loff, hy, rfl, hlb, c0, _, _⟩ := en_at (k := j) (hs.reads (Nat.le_refl _)) (by omega)
    have HO := Lib.hid (show dayR r.list = y.day from dayR_last (by rw [hln]; exact hy))
    have hj0 : (0 : Int) ≤ j := by omega
    have hj1 : (j : Int) < (j : Int) + 1 := by omega
    have hj2 : ((j : Int) + 1 == 0) = false := by rw [beq_eq_false_iff_ne]; omega
    have hjw : IntKind.i64.wrap (j : Int) = j := by
      unfold IntKind.wrap; simp [IntKind.bits, IntKind.signed]; omega
    clear hb hs hne hy h0
    go_enter Tryz.func231, Tryz.ntmps231
    go_wp2_with fail
    refine wp_region_held_drew (S := (fun W => W.cell? ⟨g, 3, none⟩ = some (.slice (some ⟨lb, loff, none⟩) (j + 1) d) ∧ W.cell? ⟨lb, loff + j * 3, none⟩ = some (.int .i64 y.day))) (by kernel_rfl) ?_ (fun hHeld => ?_)
    · exact ⟨q3, c0⟩
    refine tk 0 rfl ?_ ?_ ?_
    rotate_left
    · intro w _; go_simp; try with_reducible rfl
    try simp only [Act.put, ly]
    refine tk 1 rfl ?_ ?_ ?_
    rotate_left
    · intro w _; go_simp; try with_reducible rfl
    try simp only [Act.put, ly]
    refine tk 2 rfl ?_ ?_ ?_
    rotate_left
    · intro w _; go_simp; try with_reducible rfl
    try simp only [Act.put, ly]
    refine tk 3 rfl ?_ ?_ ?_
    rotate_left
    · intro w hSw; (try dsimp only at hSw); go_split_ands; go_simp; try with_reducible rfl
    try simp only [Act.put, ly]
    refine tk 4 rfl ?_ ?_ ?_
    rotate_left
    · intro w _; go_simp; try with_reducible rfl
    try simp only [Act.put, ly]
    refine tk 5 rfl ?_ ?_ ?_
    rotate_left
    · intro w _; go_simp; try with_reducible rfl
    try simp only [Act.put, ly]
    refine tk 6 rfl ?_ ?_ ?_
    rotate_left
    · intro w _; go_simp; try with_reducible rfl
    try simp only [Act.put, ly]
    refine tk 7 rfl ?_ ?_ ?_
    rotate_left
    · intro w hSw; (try dsimp only at hSw); go_split_ands; go_simp; try with_reducible rfl
    try simp only [Act.put, ly]
    refine tk 8 rfl ?_ ?_ ?_
    rotate_left
    · intro w _; go_simp; try with_reducible rfl
    try simp only [Act.put, ly]
    refine tk 9 rfl ?_ ?_ ?_
    rotate_left
    · intro w _; go_simp; try with_reducible rfl
    try simp only [Act.put, ly]
    refine tk 10 rfl ?_ ?_ ?_
    rotate_left
    · intro w _; go_simp; try with_reducible rfl
    try simp only [Act.put, ly]
    refine tk 11 rfl ?_ ?_ ?_
    rotate_left
    · intro w _; go_simp; try with_reducible rfl
    try simp only [Act.put, ly]
    refine tk 12 rfl ?_ ?_ ?_
    rotate_left
    · intro w hSw; (try dsimp only at hSw); go_split_ands; go_simp; try with_reducible rfl
    try simp only [Act.put, ly]
    refine tk 13 rfl ?_ ?_ ?_
    rotate_left
    · intro w _; go_simp; try with_reducible rfl
    try simp only [Act.put, ly]
    refine wpAnyH_done (by kernel_rfl) ?_ _
    go_wp2
    go_ret
    exact ⟨ret_int HO.out.symm, 1, rfl⟩
end Go.Proofs.YtjalgpioklcbfaaGreatDoor
namespace Go.Proofs.YtjalgpioklcbfaaGreatDoor
open Go.RowKit Go.Lib

theorem splitS_data {c : UInt8} {s : ByteArray} {l : List (List UInt8)} (h : splitL c s.data.toList = l) : splitS c s = l.map asBytes := by rw [splitS, h]
theorem nameC_ne {c : UInt8} (h : nameC c = true) : c ≠ 32 ∧ c ≠ 64 := by
  constructor
  · rintro rfl; revert h; decide
  · rintro rfl; revert h; decide
theorem name_free {s : ByteArray} (h : isName s = true) : (32 : UInt8) ∉ s.data.toList ∧ (64 : UInt8) ∉ s.data.toList := by
  simp only [isName, Bool.and_eq_true] at h
  have h2 := List.all_eq_true.1 h.2
  exact ⟨fun hm => (nameC_ne (h2 _ hm)).1 rfl, fun hm => (nameC_ne (h2 _ hm)).2 rfl⟩
end Go.Proofs.YtjalgpioklcbfaaGreatDoor
namespace Go.Proofs.YtjalgpioklcbfaaGreatDoor
open Go.RowKit

theorem Blk.only {lo hi g : Nat} {t : TypeId} {cs : Array Value} {w w' : World} (h : Blk w g t cs) (ho : Only lo hi w w') (hd : g < lo ∨ hi ≤ g) : Blk w' g t cs := (ho.block g h.lt hd).trans h
end Go.Proofs.YtjalgpioklcbfaaGreatDoor
namespace Go.Proofs.YtjalgpioklcbfaaGreatDoor
open Go.RowKit Go.Lib

def lineBody (st : Int) (e : En) : List UInt8 := itoa e.day ++ 32 :: (e.what.data.toList ++ 32 :: (itoa e.val ++ 32 :: itoa st))
theorem lineB_body (st : Int) (e : En) : (lineB st e).data.toList = lineBody st e ++ [10] := by
  rw [lineB_data]
  simp [lineBody]
theorem itoa_chars (n : Int) : (32 : UInt8) ∉ itoa n ∧ (10 : UInt8) ∉ itoa n := by
  have h : ∀ u, (32 : UInt8) ∉ decDigits u ∧ (10 : UInt8) ∉ decDigits u := fun u => by
    have h2 := List.all_eq_true.1 (decDigits_dig u)
    refine ⟨fun hm => ?_, fun hm => ?_⟩
    · have := h2 _ hm; revert this; decide
    · have := h2 _ hm; revert this; decide
  unfold itoa
  split
  · refine ⟨fun hm => ?_, fun hm => ?_⟩
    · rcases List.mem_cons.1 hm with hm | hm
      · revert hm; decide
      · exact (h _).1 hm
    · rcases List.mem_cons.1 hm with hm | hm
      · revert hm; decide
      · exact (h _).2 hm
  · exact h _
theorem name_free10 {s : ByteArray} (h : isName s = true) : (10 : UInt8) ∉ s.data.toList := by
  simp only [isName, Bool.and_eq_true] at h
  intro hm
  have := List.all_eq_true.1 h.2 _ hm
  revert this; decide
theorem body_free {st : Int} {e : En} (h : okEn e = true) : (10 : UInt8) ∉ lineBody st e := by
  have h1 := (itoa_chars e.day).2
  have h2 := (itoa_chars e.val).2
  have h3 := (itoa_chars st).2
  have h4 := name_free10 (okEn_bd h).2.2.1
  simp [lineBody, h1, h2, h3, h4]
theorem body_line {st : Int} {e : En} (h : okEn e = true) (h0 : 0 ≤ st) (h1 : st ≤ 65518) : lineF (asBytes (lineBody st e)) = some (e, st) := by
  have hb := okEn_bd h
  have c1 := (itoa_chars e.day).1
  have c2 := (itoa_chars e.val).1
  have c3 := (itoa_chars st).1
  have c4 := (name_free hb.2.2.1).1
  have hs : splitS 32 (asBytes (lineBody st e)) = [asBytes (itoa e.day), e.what, asBytes (itoa e.val), asBytes (itoa st)] := by
    have := splitS_data (c := 32) (s := asBytes (lineBody st e)) (l := [itoa e.day, e.what.data.toList, itoa e.val, itoa st]) (by
      rw [data_asBytes, lineBody, splitL_hit c1, splitL_hit c4, splitL_hit c2, splitL_none c3])
    rw [this]
    simp [asBytes_data]
  have d1 := isDec_itoa (n := e.day) (by omega) (by omega)
  have d2 := isDec_itoa (n := e.val) (by omega) (by omega)
  have d3 := isDec_itoa (n := st) (by omega) (by omega)
  have he : (⟨numS (itoa e.day), e.what, numS (itoa e.val)⟩ : En) = e := by rw [d1.2, d2.2]
  rw [lineF_four hs, wordsF_yes (by rw [data_asBytes]; exact d1.1) (by rw [data_asBytes]; exact d2.1) (by rw [data_asBytes]; exact d3.1) (by simp only [data_asBytes]; rw [he]; exact h)]
  simp only [data_asBytes]
  rw [he, d3.2]
end Go.Proofs.YtjalgpioklcbfaaGreatDoor
