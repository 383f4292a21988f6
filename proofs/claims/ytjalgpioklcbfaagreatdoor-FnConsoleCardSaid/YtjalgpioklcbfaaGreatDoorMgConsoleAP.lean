/- Runs and a desk copied, as the program does it. A command at the console: plain. What the program's DeskCommand answers. -/
import Derived.Test.YtjalgpioklcbfaaGreatDoorKCnB
import Derived.Test.YtjalgpioklcbfaaGreatDoorMgConsoleAA
import Derived.Test.YtjalgpioklcbfaaGreatDoorMgConsoleAK
import Derived.Test.YtjalgpioklcbfaaGreatDoorMgConsoleAM
import Derived.Test.YtjalgpioklcbfaaGreatDoorMgConsoleAO
import Derived.Test.YtjalgpioklcbfaaGreatDoorKWyC
import Derived.Test.YtjalgpioklcbfaaGreatDoorKSeI
import Derived.Test.YtjalgpioklcbfaaGreatDoorKLogC
set_option linter.unusedVariables false
set_option linter.unusedSimpArgs false
namespace Go.Proofs.YtjalgpioklcbfaaGreatDoor
open Go.RowKit Go.Lib

theorem info_rn9 : (Tryz.prog.info? 123).map (fun i => (i.zero, i.size, i.bytes)) = some (some (.agg #[.slice none 0 0, .int .i64 0]), 2, 32) := by kernel_rfl
theorem rn_one9 (A : Option Addr) (m c : Nat) (v : Int) : ∀ u ∈ [Value.slice A m c, .int .i64 v], u.oneCell' = true := by
  intro u hu
  simp at hu
  rcases hu with rfl | rfl <;> rfl
theorem rns_snoc (l : List RnH) (x : RnH) : rns l ++ [.slice x.A x.m x.c, .int .i64 x.st] = rns (l ++ [x]) := by simp [rns, cellsRn]
/-- A run more. -/
theorem OwnR.snoc {w5 w7 : World} {lo z : Nat} {A A5 A7 : Option Addr} {n c m d5 d7 : Nat} {rs : List Rn} {rh : List RnH} {r : Rn}
    (h : OwnR w5 lo z A n c rs rh) (hz : z ≤ w5.heap.size) (hlz : lo ≤ z) (s5 : Sl w5 z w5.heap.size 2 1 A5 m d5 (ints r.way)) (hm : m ≤ 9223372036854775807)
    (s7 : Sl w7 lo w7.heap.size 123 2 A7 (n + 1) d7 (rns rh ++ [.slice A5 m d5, .int .i64 r.st])) (b7 : Below lo w5 w7)
    (f7 : ∀ g, g < w5.heap.size → (∀ ad, A = some ad → ad.block ≠ g) → w7.heap[g]? = w5.heap[g]?)
    (k7 : ∀ g, g < w5.heap.size → (∀ ad, A = some ad → ad.block ≠ g) → ∀ ad, A7 = some ad → ad.block ≠ g) :
    OwnR w7 lo w7.heap.size A7 (n + 1) d7 (rs ++ [r]) (rh ++ [⟨A5, m, d5, r.st⟩]) := by
  have ho := off_of b7 f7
  have hA5 : ∀ b, inB A5 b → ¬ inB A b := fun b hb hb' => by
    have h1 := s5.inB_lt hb
    have h2 := h.row.inB_lt hb'
    omega
  have old : ∀ (i : Nat) (x : RnH), rh[i]? = some x → ∀ b, inB x.A b → b < z := fun i x hx b hb => (h.inRn_lt (.inr ⟨i, x, hx, hb⟩)).2
  have cases_ : ∀ (i : Nat) (x : RnH), (rh ++ [(⟨A5, m, d5, r.st⟩ : RnH)])[i]? = some x → rh[i]? = some x ∨ (i = n ∧ x = ⟨A5, m, d5, r.st⟩) := fun i x hx => by
    rw [List.getElem?_append] at hx
    split at hx
    · exact .inl hx
    · right
      rename_i hi
      have hl := h.hlen
      have : i - rh.length = 0 := by
        by_cases e : i - rh.length = 0
        · exact e
        · rw [List.getElem?_eq_none (by simp; omega)] at hx; cases hx
      rw [this] at hx
      simp at hx
      exact ⟨by omega, hx.symm⟩
  refine ⟨by rw [← rns_snoc]; exact s7, by rw [List.length_append, h.len]; rfl, fun i x q hx hq => ?_, fun i x hx b hb => ?_, fun i j x y hne hx hy b hb => ?_⟩
  · rcases cases_ i x hx with hx | ⟨rfl, rfl⟩
    · have hi := (List.getElem?_eq_some_iff.1 hx).1
      rw [List.getElem?_append_left (by rw [h.len, ← h.hlen]; exact hi)] at hq
      have := h.at_ i x q hx hq
      exact ⟨this.1, this.2.1, ((this.2.2.off ho fun b hb => h.ne i x hx b hb)).low⟩
    · rw [List.getElem?_append_right (by rw [h.len]; exact Nat.le_refl _), h.len, Nat.sub_self] at hq
      simp at hq
      subst hq
      exact ⟨rfl, hm, ((s5.off ho hA5).wide hlz (Nat.le_refl _)).low⟩
  · intro ⟨ad, e, hh⟩
    rcases cases_ i x hx with hx | ⟨rfl, rfl⟩
    · obtain ⟨q, hq⟩ := h.get hx
      exact k7 b ((h.at_ i x q hx hq).2.2.inB_heap hb) (fun ad' e' hh' => h.ne i x hx b hb ⟨ad', e', hh'⟩) ad e hh
    · exact k7 b (s5.inB_heap hb) (fun ad' e' hh' => hA5 b hb ⟨ad', e', hh'⟩) ad e hh
  · rcases cases_ i x hx with hx | ⟨rfl, rfl⟩
    · rcases cases_ j y hy with hy | ⟨rfl, rfl⟩
      · exact h.ne2 i j x y hne hx hy b hb
      · intro hb'
        have h1 := old i x hx b hb
        have h2 := s5.inB_lt hb'
        omega
    · rcases cases_ j y hy with hy | ⟨rfl, rfl⟩
      · intro hb'
        have h1 := old j y hy b hb'
        have h2 := s5.inB_lt hb
        omega
      · exact absurd rfl hne
set_option maxHeartbeats 4000000 in
set_option maxRecDepth 100000 in
theorem copyRuns_any (A : Option Addr) (n c B : Nat) (rs : List Rn) (w : World) (h : RunsR w B A n rs) (hB : B ≤ w.heap.size) (hn : n ≤ 1048576) (hw : ∀ r ∈ rs, 1 ≤ r.way.length ∧ r.way.length ≤ 1048576) :
    Calls Tryz.prog 76 #[.slice A n c] w fun e w' => ∃ A' c' rh, e = .returned (.slice A' n c') ∧ OwnR w' w.heap.size w'.heap.size A' n c' rs rh ∧ Below w.heap.size w w' := by
  have HR := Lib.hid h
  have HW := Lib.hid hw
  have HL := Lib.hid h.len
  have s0 := (Acc.made w 123 2).sl (lo := w.heap.size) (Nat.le_refl _) (Nat.le_refl _)
  have HO0 := Lib.hid (show OwnR (w.alloc (.cells #[] 123)) w.heap.size (w.alloc (.cells #[] 123)).heap.size (some ⟨w.heap.size, 0, none⟩) 0 0 (rs.take 0) [] from ⟨s0, by simp, fun i x r hx => by simp at hx, fun i x hx => by simp at hx, fun i j x x' _ hx => by simp at hx⟩)
  have HB0 := Lib.hid ((Below.refl w.heap.size w).alloc (Nat.le_refl _) (.cells #[] 123))
  clear h hw s0
  go_enter Tryz.func76, Tryz.ntmps76
  go_wp2_with fail
  go_loopw [3, 9] (fun o i wr => ∃ (k : Nat) (A' : Option Addr) (d' : Nat) (rh : List RnH), k ≤ n ∧ i = .int .i64 (k : Int) ∧ o = .slice A' k d' ∧ OwnR wr w.heap.size wr.heap.size A' k d' (rs.take k) rh ∧ Below w.heap.size w wr) (fun _ i _ => n - (RowKit.intOf i).toNat)
  case atStart => exact ⟨0, _, _, _, Nat.zero_le _, rfl, rfl, HO0.out, HB0.out⟩
  case round =>
    obtain ⟨k, A', d', rh, hk, rfl, rfl, hown, hbel⟩ := hrel
    have HO := Lib.hid hown
    have HBr := Lib.hid hbel
    clear hown hbel
    have hk0 : (0 : Int) ≤ k := by omega
    by_cases hlt : k < n
    · obtain ⟨r, b, off, A2, m2, c2, he, rfl, hb, c0, c1, hrr, hm2x⟩ := run_at (HR.out.on hB HBr.out) hlt
      have hwr := HW.out r (List.mem_of_getElem? he)
      have hml := ints_len hrr
      have hm2 : m2 ≤ 1048576 := by omega
      have HTK := Lib.hid (show rs.take (k + 1) = rs.take k ++ [r] by rw [List.take_add_one, he]; rfl)
      have HPL := Lib.hid (show PlainA A2 by
        obtain ⟨b', off', e, _, _⟩ := hrr.at_ (by omega)
        intro ad had
        rw [e] at had
        injection had with had
        rw [← had])
      have hkn : (k : Int) < n := by omega
      obtain ⟨way, st⟩ := r
      simp only at c1 hrr hml hwr
      have HRW := Lib.hid hrr
      clear he hrr
      go_upto_region 5 with fail
      obtain ⟨u, hu⟩ : ∃ y, wr.alloc (.cells #[.slice A2 m2 c2, .int .i64 st] 123) = y := ⟨_, rfl⟩
      have yu : Blk u wr.heap.size 123 #[.slice A2 m2 c2, .int .i64 st] := by rw [← hu]; exact Blk.new _ _ _
      have bu : Below wr.heap.size wr u := by rw [← hu]; exact (Below.refl _ _).alloc (Nat.le_refl _) _
      rw [hu]
      have p0 : u.drew.cell? ⟨wr.heap.size, 0, none⟩ = some (.slice A2 m2 c2) := yu.drew.cellAt 0 (by simp)
      have p1 : u.drew.cell? ⟨wr.heap.size, 1, none⟩ = some (.int .i64 st) := yu.drew.cellAt 1 (by simp)
      have HOu := Lib.hid (HO.out.on bu)
      have HBu := Lib.hid (bnext HBr.out bu (Nat.le_refl _))
      have HRu := Lib.hid (HRW.out.on (Nat.le_trans hB HBr.out.size) bu)
      have HLu := Lib.hid yu.lt
      have HNA := Lib.hid (show ∀ ad, A' = some ad → ad.block ≠ wr.heap.size from fun ad had e => by have := (HO.out.row.inB_lt ⟨ad, had, rfl⟩).2; omega)
      clear hu yu bu c0 c1
      refine wp_region_held_drew (S := (fun V => V.cell? ⟨wr.heap.size, 0, none⟩ = some (.slice A2 m2 c2) ∧ V.cell? ⟨wr.heap.size, 1, none⟩ = some (.int .i64 st))) (by kernel_rfl) ?_ (fun hHeld => ?_)
      · exact ⟨p0, p1⟩
      refine tk 0 rfl ?_ ?_ ?_
      rotate_left
      · intro w _; go_simp; try with_reducible rfl
      try simp only [Act.put, ly]
      refine tk 1 rfl ?_ ?_ ?_
      rotate_left
      · intro w _; go_simp; try with_reducible rfl
      try simp only [Act.put, ly]
      refine tk 2 rfl ?_ ?_ ?_
      rotate_left
      · intro w hSw; (try dsimp only at hSw); (have e0 := hSw.1); (have e1 := hSw.2); go_simp; try with_reducible rfl
      try simp only [Act.put, ly]
      refine tk 4 rfl ?_ ?_ ?_
      rotate_left
      · intro w _; go_simp; try with_reducible rfl
      try simp only [Act.put, ly]
      refine tk 5 rfl ?_ ?_ ?_
      rotate_left
      · intro w hSw; (try dsimp only at hSw); (have e0 := hSw.1); (have e1 := hSw.2); go_simp; try with_reducible rfl
      try simp only [Act.put, ly]
      refine wpAnyH_ready (rs := [3]) (by kernel_rfl) (by simp) ?_
      refine AllReadyH.cons rfl (fun K hK => ?_) AllReadyH.nil
      go_simp
      refine (cloneI_any A2 m2 c2 B way u.drew HPL.out (HRu.out.keep fun _ _ => rfl) hm2).mono ?_
      rintro e w5 ⟨A5, d5, rfl, s5, b5⟩
      have b5u := (show Below u.heap.size u w5 from (Below.refl _ _).drew.trans b5)
      have HS5 := Lib.hid s5
      have HB5 := Lib.hid b5u
      have HO5 := Lib.hid (HOu.out.on b5u).low
      have hz5 : w.heap.size ≤ w5.heap.size := (HBu.out.trans (b5u.mono HBu.out.size)).size
      clear s5 b5 b5u
      go_wp2_with fail
      refine hK.out _ _ ?_ (fun hNew => ?_)
      · exact ⟨cell_on HB5.out hHeld.1, cell_on HB5.out hHeld.2⟩
      clear hK K hHeld
      have hHeld := hNew
      clear hNew
      try simp only [Act.put, ly]
      refine tk 6 rfl ?_ ?_ ?_
      rotate_left
      · intro w _; go_simp; try with_reducible rfl
      try simp only [Act.put, ly]
      refine wpAnyH_ready (rs := [7]) (by kernel_rfl) (by simp) ?_
      refine AllReadyH.cons rfl (fun K hK => ?_) AllReadyH.nil
      go_simp
      refine hK.out _ _ ?_ (fun hNew => ?_)
      · exact ⟨cell_on ((Below.refl _ _).alloc (Nat.le_refl _) _) hHeld.1, cell_on ((Below.refl _ _).alloc (Nat.le_refl _) _) hHeld.2⟩
      clear hK K hHeld
      have hHeld := hNew
      clear hNew
      try simp only [Act.put, ly]
      refine wpAnyH_ready (rs := [8]) (by kernel_rfl) (by simp) ?_
      refine AllReadyH.cons rfl (fun K hK => ?_) AllReadyH.nil
      refine step_oneF rfl _ _ 30 rfl 123 _ 2 32 Tryz.underlying30 info_rn9 rfl (by decide) (by decide) HO5.out.row hz5 rfl [.slice A5 m2 d5, .int .i64 st] w5.heap.size rfl rfl rfl (rn_one9 A5 m2 d5 st) (by omega) ?_
      intro A7 d7 w7 hs7 b7 f7 k7
      refine hK.out _ _ ?_ (fun hNew => ?_)
      · have hg := f7 wr.heap.size (Nat.lt_of_lt_of_le HLu.out HB5.out.size) HNA.out
        exact ⟨(World.cell?_of_block hg).trans (cell_on HB5.out p0), (World.cell?_of_block hg).trans (cell_on HB5.out p1)⟩
      clear hK K hHeld
      have hHeld := hNew
      clear hNew
      try simp only [Act.put, ly]
      refine tk 9 rfl ?_ ?_ ?_
      rotate_left
      · intro w _; go_simp; try with_reducible rfl
      try simp only [Act.put, ly]
      refine wpAnyH_done (by kernel_rfl) ?_ _
      have HOF := Lib.hid (OwnR.snoc (r := ⟨way, st⟩) (HOu.out.on HB5.out) (Nat.le_trans (Nat.le_of_lt HLu.out) HB5.out.size) HBr.out.size (HS5.out.wide (Nat.le_of_lt HLu.out) (Nat.le_refl _)) (by omega) hs7 b7 f7 k7)
      have HBF := Lib.hid ((HBu.out.trans (HB5.out.mono HBu.out.size)).trans b7)
      clear hHeld p0 p1 hs7 b7 f7 k7
      go_wp2
      go_roundw
      case rel => exact ⟨k + 1, A7, d7, _, by omega, by go_num, rfl, by rw [HTK.out]; exact HOF.out, HBF.out⟩
      case measure => simp [RowKit.intOf]; omega
    · obtain rfl : n = k := by omega
      have HT := Lib.hid (show rs.take n = rs by rw [← HL.out, List.take_length])
      go_wp2
      go_ret
      exact ⟨A', d', rh, rfl, by have h := HO.out; rw [HT.out] at h; exact h, HBr.out⟩
end Go.Proofs.YtjalgpioklcbfaaGreatDoor
namespace Go.Proofs.YtjalgpioklcbfaaGreatDoor
open Go.RowKit Go.Lib

/-- The answer of a command: the desk behind it, its lines, its code. -/
structure Ans where
  dk : Dk
  lines : List ByteArray
  code : Int
def wordAt (ws : List ByteArray) (i : Nat) : ByteArray := ws.getD i ⟨#[]⟩
def numAt (ns : List Int) (i : Nat) : Int := ns.getD i 0
def netC (d : Dk) (ws : List ByteArray) : Ans :=
  if (netF (joinL 32 ((ws.drop 1).map fun s => s.data.toList))).isSome = false then ⟨d, [], 7⟩
  else let d' : Dk := ⟨netV (asBytes (joinL 32 ((ws.drop 1).map fun s => s.data.toList))), d.times, d.runs, d.log⟩; ⟨d', [textDk d'], 0⟩
def wayCm (d : Dk) (ns : List Int) : Ans := ⟨d, [asBytes (numLn (wayC d.net (numAt ns 0) (numAt ns 1)).1)], (wayC d.net (numAt ns 0) (numAt ns 1)).2⟩
def timesC (d : Dk) (ns : List Int) : Ans := if okTimes ns = false then ⟨d, [], 1⟩ else ⟨⟨d.net, ns, [], d.log⟩, [textDk ⟨d.net, ns, [], d.log⟩], 0⟩
noncomputable def runC (d : Dk) (ns : List Int) : Ans :=
  if (earlF d.times d.runs (ns.drop 1) (numAt ns 0)).2 ≠ 0 then ⟨d, [], (earlF d.times d.runs (ns.drop 1) (numAt ns 0)).2⟩
  else if d.runs.length = 12 then ⟨d, [], 5⟩
  else ⟨⟨d.net, d.times, d.runs ++ [⟨ns.drop 1, (earlF d.times d.runs (ns.drop 1) (numAt ns 0)).1⟩], d.log⟩, [asBytes (itoa (earlF d.times d.runs (ns.drop 1) (numAt ns 0)).1)], 0⟩
def okL (xs : List ByteArray) : List ByteArray := xs ++ [(⟨#[111, 107, 32]⟩ : ByteArray) ++ asBytes (itoa (xs.length : Int))]
def runsCm (d : Dk) : Ans := ⟨d, okL (d.runs.map fun r => asBytes (numLn (r.st :: r.way))), 0⟩
def freeC (d : Dk) (ns : List Int) : Ans := ⟨d, [if (freeF d.times d.runs (numAt ns 0) (numAt ns 1) (numAt ns 2)).1 = true then ⟨#[121, 101, 115]⟩ else ⟨#[110, 111]⟩], (freeF d.times d.runs (numAt ns 0) (numAt ns 1) (numAt ns 2)).2⟩
def searchC (d : Dk) (ns : List Int) : Ans := ⟨d, [asBytes (numLn (seaC (ns.drop 1) (numAt ns 0)).1), asBytes (itoa (seaC (ns.drop 1) (numAt ns 0)).2.1)], (seaC (ns.drop 1) (numAt ns 0)).2.2⟩
def pairsOf : List Int → List Tl
  | a :: b :: r => (a, b) :: pairsOf r
  | _ => []
def flatP : List Tl → List Int
  | [] => []
  | (a, b) :: r => a :: b :: flatP r
def stuckC (d : Dk) (ns : List Int) : Ans := if ns.length % 2 = 0 then ⟨d, [], 7⟩ else ⟨d, [asBytes (numLn (flatP (stuckF (numAt ns 0) (pairsOf (ns.drop 1))).1))], (stuckF (numAt ns 0) (pairsOf (ns.drop 1))).2⟩
def itsOf : List Int → List It
  | a :: b :: c :: r => ⟨a, b, c⟩ :: itsOf r
  | _ => []
noncomputable def queueC (d : Dk) (ns : List Int) : Ans := if ns.length % 3 ≠ 0 then ⟨d, [], 7⟩ else ⟨d, [asBytes (numLn (srvC (itsOf ns)).1)], (srvC (itsOf ns)).2⟩
def enterC (d : Dk) (ws : List ByteArray) (ns : List Int) : Ans :=
  let x : En := ⟨numAt ns 0, wordAt ws 2, numAt ns 1⟩
  if (addEF d.log x).2 ≠ 0 then ⟨d, [], (addEF d.log x).2⟩
  else ⟨⟨d.net, d.times, d.runs, (addEF d.log x).1⟩, [asBytes (itoa (sumTo (valsF (addEF d.log x).1 (wordAt ws 2)) (valsF (addEF d.log x).1 (wordAt ws 2)).length))], whatF (addEF d.log x).1 (wordAt ws 2)⟩
def entW (x : En) : ByteArray := asBytes (itoa x.day) ++ ⟨#[32]⟩ ++ x.what ++ ⟨#[32]⟩ ++ asBytes (itoa x.val)
def logC (d : Dk) : Ans := ⟨d, okL ((logR d.log).list.map entW), 0⟩
/-- What is carried out, by the first word. -/
noncomputable def execF (d : Dk) (ws : List ByteArray) (ns : List Int) : Ans :=
  if ((wordAt ws 0).toList == [110, 101, 116]) = true then netC d ws
  else if ((wordAt ws 0).toList == [119, 97, 121]) = true then wayCm d ns
  else if ((wordAt ws 0).toList == [116, 105, 109, 101, 115]) = true then timesC d ns
  else if ((wordAt ws 0).toList == [114, 117, 110]) = true then runC d ns
  else if ((wordAt ws 0).toList == [114, 117, 110, 115]) = true then runsCm d
  else if ((wordAt ws 0).toList == [102, 114, 101, 101]) = true then freeC d ns
  else if ((wordAt ws 0).toList == [115, 101, 97, 114, 99, 104]) = true then searchC d ns
  else if ((wordAt ws 0).toList == [115, 116, 117, 99, 107]) = true then stuckC d ns
  else if ((wordAt ws 0).toList == [113, 117, 101, 117, 101]) = true then queueC d ns
  else if ((wordAt ws 0).toList == [101, 110, 116, 101, 114]) = true then enterC d ws ns
  else logC d
/-- The numbers of a line, as its shape asks for them. -/
def kindB (sh : ByteArray) (i : Nat) : UInt8 := sh.data.toList.getD (min i (sh.size - 1)) 0
def numsF (sh : ByteArray) : List ByteArray → Nat → List Int → Option (List Int)
  | [], _, acc => some acc
  | w :: r, i, acc => if kindB sh i = 110 ∨ kindB sh i = 42 then (if (readN w.data.toList).2 = true then numsF sh r (i + 1) (acc ++ [(readN w.data.toList).1]) else none) else numsF sh r (i + 1) acc
def starB (sh : ByteArray) : Bool := sh.data.toList.getLast? == some 43 || sh.data.toList.getLast? == some 42
def errL (c : Nat) : ByteArray := (⟨#[101, 114, 114, 111, 114, 32]⟩ : ByteArray) ++ cnm.getD c ⟨#[]⟩
def dk00 : Dk := ⟨⟨0, []⟩, [], [], ⟨#[]⟩⟩
noncomputable def cmdF (d : Dk) (line : ByteArray) : Ans :=
  let ws := splitS 32 line
  let sh := shp (wordAt ws 0)
  if okDk d = false then ⟨dk00, [], 1⟩
  else if hasW deskW (wordAt ws 0) = false then ⟨dk00, [], 7⟩
  else if ws.length < sh.size + 1 ∨ (starB sh = false ∧ sh.size + 1 < ws.length) then ⟨dk00, [], 7⟩
  else match numsF sh (ws.drop 1) 0 [] with
    | none => ⟨d, [errL 7], 0⟩
    | some ns => if (execF d ws ns).code ≠ 0 then ⟨d, [errL (execF d ws ns).code.toNat], 0⟩ else execF d ws ns
end Go.Proofs.YtjalgpioklcbfaaGreatDoor
