/- The digits of an exit, a way's switches, trials tested, as the program does it. What trials tell of the switches, as the program gathers it. -/
import Derived.Test.YtjalgpioklcbfaaGreatDoorKFaB
import Derived.Test.YtjalgpioklcbfaaGreatDoorMgConsoleAF
set_option linter.unusedVariables false
set_option linter.unusedSimpArgs false
namespace Go.Proofs.YtjalgpioklcbfaaGreatDoor
open Go.RowKit Go.Lib

def dgF (d : Nat) (x : Int) (k : Nat) : Int := x / (2 : Int) ^ (d - 1 - k) % 2
theorem dgF_bd (d : Nat) (x : Int) (k : Nat) : 0 ≤ dgF d x k ∧ dgF d x k ≤ 1 := by unfold dgF; omega
theorem and1 (y : Int) (h0 : 0 ≤ y) (h1 : y ≤ 15) : bits BinOp.and IntKind.i64 y 1 = y % 2 := by
  obtain ⟨n, rfl⟩ := Int.eq_ofNat_of_zero_le h0
  have hn : n ≤ 15 := by omega
  have : ∀ m : Nat, m ≤ 15 → bits BinOp.and IntKind.i64 (m : Int) 1 = (m : Int) % 2 := by decide
  exact this n hn
theorem digit_any (d k : Nat) (x : Int) (hd : d ≤ 4) (hk : k < d) (hx : 0 ≤ x) (hx2 : x ≤ 15) (w : World) :
    Calls Tryz.prog 267 #[.int .i64 (d : Int), .int .i64 x, .int .i64 (k : Int)] w fun e w' => e = .returned (.int .i64 (dgF d x k)) ∧ w' = w := by
  have hp : (0 : Int) < 2 ^ (d - 1 - k) := Int.pow_pos (by decide)
  have h0 : 0 ≤ x / (2 : Int) ^ (d - 1 - k) := Int.ediv_nonneg hx (by omega)
  have h9 : x / (2 : Int) ^ (d - 1 - k) ≤ 15 := Int.le_trans (Int.ediv_le_self _ hx) hx2
  have HO := Lib.hid (show bits BinOp.and IntKind.i64 (x / (2 : Int) ^ (d - 1 - k)) 1 = dgF d x k from and1 _ h0 h9)
  clear hp h0 h9
  go_enter Tryz.func267, Tryz.ntmps267
  go_wp2
  go_ret
  exact ⟨ret_int HO.out, rfl⟩
theorem isDepth_any (x : Int) (w : World) :
    Calls Tryz.prog 262 #[.int .i64 x] w fun e w' => e = .returned (.bool (inR x 1 4)) ∧ w' = w := by
  go_enter Tryz.func262, Tryz.ntmps262
  go_wp2_with fail
  refine (within_any _ _ _ _).mono ?_
  rintro e w3 ⟨rfl, rfl⟩
  go_wp2
  go_ret
  exact ⟨rfl, rfl⟩
theorem isExit_any (d : Nat) (x : Int) (h1 : 1 ≤ d) (hd : d ≤ 4) (w : World) :
    Calls Tryz.prog 265 #[.int .i64 (d : Int), .int .i64 x] w fun e w' => e = .returned (.bool (inR x 0 ((2 : Int) ^ d - 1))) ∧ w' = w := by
  have hwr : wrap64 (wrap64 ((2 : Int) ^ d) - 1) = (2 : Int) ^ d - 1 := by
    have : d = 1 ∨ d = 2 ∨ d = 3 ∨ d = 4 := by omega
    rcases this with rfl | rfl | rfl | rfl <;> (simp only [Int.reducePow]; unfold wrap64; omega)
  have HW := Lib.hid hwr
  clear hwr
  go_enter Tryz.func265, Tryz.ntmps265
  go_wp2_with fail
  rw [HW.out]
  refine (within_any _ _ _ _).mono ?_
  rintro e w3 ⟨rfl, rfl⟩
  go_wp2
  go_ret
  exact ⟨rfl, rfl⟩
/-- A trial: an exit addressed, an exit reached. -/
abbrev Tl := Int × Int
def cellsTl (x : Tl) : List Value := [.int .i64 x.1, .int .i64 x.2]
def tls (l : List Tl) : List Value := l.flatMap cellsTl
theorem tls_length (l : List Tl) : (tls l).length = l.length * 2 := flat_length cellsTl 2 (fun _ => rfl) l
theorem tls_snoc (l : List Tl) (x : Tl) : tls l ++ cellsTl x = tls (l ++ [x]) := by simp [tls, List.flatMap_append]
theorem tl_one (x : Tl) : ∀ u ∈ cellsTl x, u.oneCell' = true := by
  intro u hu
  simp [cellsTl] at hu
  rcases hu with rfl | rfl <;> rfl
theorem tls_len {w : World} {B n : Nat} {A : Option Addr} {l : List Tl} (h : Reads w B 2 A n (tls l)) : l.length = n := by
  have := h.1
  rw [tls_length] at this
  omega
theorem tl_at {w : World} {B n k : Nat} {A : Option Addr} {l : List Tl} (h : Reads w B 2 A n (tls l)) (hk : k < n) :
    ∃ (x : Tl) (b off : Nat), l[k]? = some x ∧ A = some ⟨b, off, none⟩ ∧ b < B ∧ w.cell? ⟨b, off + k * 2, none⟩ = some (.int .i64 x.1) ∧ w.cell? ⟨b, off + k * 2 + 1, none⟩ = some (.int .i64 x.2) := by
  obtain ⟨b, off, rfl, hb, hcell⟩ := h.at_ (by omega)
  have hl := tls_len h
  have he : l[k]? = some l[k] := List.getElem?_eq_getElem (by omega)
  exact ⟨_, b, off, he, rfl, hb, hcell _ _ (flat_get cellsTl 2 (fun _ => rfl) l k _ he 0 (by omega)), hcell _ _ (flat_get cellsTl 2 (fun _ => rfl) l k _ he 1 (by omega))⟩
def okTl (d : Nat) (t : Tl) : Bool := inR t.1 0 ((2 : Int) ^ d - 1) && inR t.2 0 ((2 : Int) ^ d - 1)
def okTr (D : Int) (l : List Tl) : Bool := inR D 1 4 && (decide (l.length ≤ 16) && l.all (okTl D.toNat))
theorem validTrials1_any (d g : Nat) (t : Tl) (h1 : 1 ≤ d) (hd : d ≤ 4) (w : World) (h : w.cell? ⟨g, 0, none⟩ = some (.int .i64 (d : Int))) :
    Calls Tryz.prog 264 #[.agg #[.int .i64 t.1, .int .i64 t.2], .pointer (some ⟨g, 0, none⟩)] w fun e w' => e = .returned (.bool (!okTl d t)) ∧ Below w.heap.size w w' := by
  obtain ⟨W, hW, y0, hb⟩ : ∃ W, W = w.alloc (.cells #[.int .i64 t.1, .int .i64 t.2] 132) ∧ Blk W w.heap.size 132 #[.int .i64 t.1, .int .i64 t.2] ∧ Below w.heap.size w W := ⟨_, rfl, Blk.new _ _ _, (Below.refl _ _).alloc (Nat.le_refl _) _⟩
  have HW := Lib.hid hW
  have HB := Lib.hid hb
  replace h := cell_on hb h
  have c0 := y0.cellAt 0 (by simp)
  have c1 := y0.cellAt 1 (by simp)
  simp only [List.getElem_toArray, List.getElem_cons_zero, List.getElem_cons_succ] at c0 c1
  clear hW hb y0
  go_enter Tryz.func264, Tryz.ntmps264
  go_upto_region 1 with fail
  rw [← HW.out]
  go_wp2_with fail
  refine (isExit_any d t.1 h1 hd W).mono ?_
  rintro e w1 ⟨rfl, rfl⟩
  rcases e1 : inR t.1 0 ((2 : Int) ^ d - 1) with _ | _
  · have HO := Lib.hid (show okTl d t = false by simp [okTl, e1])
    go_wp2
    go_ret
    exact ⟨ret_bool (by rw [HO.out]; rfl), HB.out⟩
  have H1 := Lib.hid (show okTl d t = inR t.2 0 ((2 : Int) ^ d - 1) by simp [okTl, e1])
  clear e1
  go_wp2_with fail
  refine (isExit_any d t.2 h1 hd _).mono ?_
  rintro e w1 ⟨rfl, rfl⟩
  rw [← H1.out]
  go_wp2
  go_ret
  exact ⟨rfl, HB.out⟩
theorem indexFuncTl_any (A : Option Addr) (n c g d : Nat) (l : List Tl) (B : Nat) (w : World) (h : Reads w B 2 A n (tls l)) (hB : B ≤ w.heap.size) (hn : n ≤ 1048576) (h1 : 1 ≤ d) (hd : d ≤ 4) (hc : w.cell? ⟨g, 0, none⟩ = some (.int .i64 (d : Int))) :
    Calls Tryz.prog 304 #[.slice A n c, .func (.func 264) #[] #[.pointer (some ⟨g, 0, none⟩)]] w fun e w' => e = .returned (.int .i64 (idxI (fun x => !okTl d x) l)) ∧ Below w.heap.size w w' := by
  have hl := Lib.hid (tls_len h)
  have HC := Lib.hid hc
  clear hc
  go_enter Tryz.func304, Tryz.ntmps304
  go_wp2
  go_loopw [8] (fun i wr => ∃ k : Nat, k ≤ n ∧ i = .int .i64 k ∧ AllTo (okTl d) l k ∧ Below w.heap.size w wr) (fun i _ => n - (RowKit.intOf i).toNat)
  case atStart => exact ⟨0, Nat.zero_le _, rfl, AllTo.zero _ _, Below.refl _ _⟩
  case round =>
    obtain ⟨k, hk, rfl, hall, hbel⟩ := hrel
    have HA := Lib.hid hall
    have HB := Lib.hid hbel
    clear hall
    by_cases hlt : k < n
    · obtain ⟨x, b, off, he, rfl, hb, c0, c1⟩ := tl_at (h.on hB hbel) hlt
      have HE := Lib.hid he
      clear he hbel h
      go_wp2_with fail
      refine (validTrials1_any d g x h1 hd _ (cell_on HB.out HC.out)).mono ?_
      rintro e w1 ⟨rfl, b1⟩
      have HF := Lib.hid (bnext HB.out b1 (Nat.le_refl _))
      clear b1 c0 c1
      rcases ho : okTl d x with _ | _
      · have HO := Lib.hid (show idxI (fun x => !okTl d x) l = k from idxI_found HE.out (by simp [ho]) (HA.out.imp fun x hx => by simp [hx]))
        go_wp2
        go_ret
        exact ⟨ret_int HO.out.symm, HF.out⟩
      · have HO := Lib.hid ho
        go_wp2
        go_roundw
        case rel => exact ⟨k + 1, by omega, by go_num, HA.out.step HE.out HO.out, HF.out⟩
        case measure => simp [RowKit.intOf]; omega
    · obtain rfl : k = n := by omega
      have HO := Lib.hid (show idxI (fun x => !okTl d x) l = -1 from idxI_none (HA.out.imp fun x hx => by simp [hx]) hl.out)
      go_wp2
      go_ret
      exact ⟨ret_int HO.out.symm, HB.out⟩
theorem containsFuncTl_any (A : Option Addr) (n c g d : Nat) (l : List Tl) (B : Nat) (w : World) (h : Reads w B 2 A n (tls l)) (hB : B ≤ w.heap.size) (hn : n ≤ 1048576) (h1 : 1 ≤ d) (hd : d ≤ 4) (hc : w.cell? ⟨g, 0, none⟩ = some (.int .i64 (d : Int))) :
    Calls Tryz.prog 263 #[.slice A n c, .func (.func 264) #[] #[.pointer (some ⟨g, 0, none⟩)]] w fun e w' => e = .returned (.bool (!l.all (okTl d))) ∧ Below w.heap.size w w' := by
  have HO := Lib.hid (show decide (0 ≤ idxI (fun x => !okTl d x) l) = !l.all (okTl d) from by rw [idxI_nonneg]; simp [List.any_eq_not_all_not])
  have HC := Lib.hid (indexFuncTl_any A n c g d l B w h hB hn h1 hd hc)
  clear h hc
  go_enter Tryz.func263, Tryz.ntmps263
  go_wp2_with fail
  refine HC.out.mono ?_
  rintro e w1 ⟨rfl, b1⟩
  go_wp2
  go_ret
  exact ⟨ret_bool HO.out, b1⟩
theorem validTrials_any (D : Int) (A : Option Addr) (n c : Nat) (l : List Tl) (B : Nat) (w : World) (h : Reads w B 2 A n (tls l)) (hB : B ≤ w.heap.size) (hn : n ≤ 1048576) :
    Calls Tryz.prog 216 #[.int .i64 D, .slice A n c] w fun e w' => e = .returned (.bool (okTr D l)) ∧ Below w.heap.size w w' := by
  have hl := tls_len h
  have HL := Lib.hid hl
  obtain ⟨W, hW, y0, hb⟩ : ∃ W, W = w.alloc (.cells #[.int .i64 D] 2) ∧ Blk W w.heap.size 2 #[.int .i64 D] ∧ Below w.heap.size w W := ⟨_, rfl, Blk.new _ _ _, (Below.refl _ _).alloc (Nat.le_refl _) _⟩
  have HW := Lib.hid hW
  have HB := Lib.hid hb
  have HR := Lib.hid (h.on hB hb)
  have c0 := y0.cellAt 0 (by simp)
  simp only [List.getElem_toArray, List.getElem_cons_zero] at c0
  clear hW hb y0 h hl
  go_enter Tryz.func216, Tryz.ntmps216
  go_upto_region 1 with fail
  rw [← HW.out]
  go_wp2_with fail
  refine (isDepth_any D W).mono ?_
  rintro e w1 ⟨rfl, rfl⟩
  rcases e1 : inR D 1 4 with _ | _
  · have HO := Lib.hid (show okTr D l = false by simp [okTr, e1])
    go_wp2
    go_ret
    exact ⟨ret_bool HO.out.symm, HB.out⟩
  have hD := inR_true.1 e1
  obtain ⟨d, hd⟩ := Int.eq_ofNat_of_zero_le (show 0 ≤ D by omega)
  subst hd
  by_cases h9 : n ≤ 16
  · have hd9 : decide ((n : Int) ≤ 16) = true := decide_eq_true (by omega)
    have HO := Lib.hid (show okTr (d : Int) l = l.all (okTl d) by simp [okTr, e1, HL.out, h9])
    have HC := Lib.hid c0
    clear e1
    go_wp2_with fail
    refine (containsFuncTl_any A n c _ d l B _ HR.out (Nat.le_trans hB HB.out.size) hn (by omega) (by omega) HC.out).mono ?_
    rintro e w2 ⟨rfl, b2⟩
    go_wp2
    go_ret
    exact ⟨ret_bool (by rw [HO.out]; try simp), bnext HB.out b2 (Nat.le_refl _)⟩
  · have hd9 : decide ((n : Int) ≤ 16) = false := decide_eq_false (by omega)
    have HO := Lib.hid (show okTr (d : Int) l = false by simp [okTr, e1, HL.out, h9])
    clear e1
    go_wp2
    go_ret
    exact ⟨ret_bool HO.out.symm, HB.out⟩
theorem nodeF_hi {d : Nat} {x : Int} {k : Nat} (hk : k < 4) : 1 ≤ nodeF (dgF d x) k ∧ nodeF (dgF d x) k ≤ 15 := by
  have := nodeF_bd (dgF_bd d x) k
  have : k = 0 ∨ k = 1 ∨ k = 2 ∨ k = 3 := by omega
  rcases this with rfl | rfl | rfl | rfl <;> omega
/-- The switches on the way to an exit. -/
def wayTo (d : Nat) (x : Int) (k : Nat) : List Int := (List.range k).map fun j => nodeF (dgF d x) j
theorem wayTo_snoc (d : Nat) (x : Int) (k : Nat) : wayTo d x (k + 1) = wayTo d x k ++ [nodeF (dgF d x) k] := by simp [wayTo, List.range_succ]
set_option maxHeartbeats 1000000 in
theorem switchesTo_any (d : Nat) (x : Int) (h1 : 1 ≤ d) (hd : d ≤ 4) (hx : 0 ≤ x) (hx2 : x ≤ 15) (w : World) :
    Calls Tryz.prog 266 #[.int .i64 (d : Int), .int .i64 x] w fun e w' => ∃ A' q d', e = .returned (.slice A' q d') ∧ Sl w' w.heap.size w'.heap.size 2 1 A' q d' (ints (wayTo d x d)) ∧ Below w.heap.size w w' := by
  have acc0 := Acc.made w 2 1
  go_enter Tryz.func266, Tryz.ntmps266
  go_wp2
  go_loopw [5, 6, 10] (fun o v i wr => ∃ (k : Nat) (A' : Option Addr) (d' : Nat), k ≤ d ∧ i = .int .i64 (k : Int) ∧ o = .slice A' k d' ∧ v = .int .i64 (nodeF (dgF d x) k) ∧ Acc w.heap.size w.heap.size 2 1 w wr A' k d' (ints (wayTo d x k))) (fun _ _ i _ => d - (RowKit.intOf i).toNat)
  case atStart => exact ⟨0, _, _, Nat.zero_le _, rfl, rfl, rfl, acc0⟩
  case round =>
    obtain ⟨k, A', d', hk, rfl, rfl, rfl, hacc⟩ := hrel
    have HA := Lib.hid hacc
    clear acc0 hacc
    have hk0 : (0 : Int) ≤ k := by omega
    by_cases hlt : k < d
    · have hkn : (k : Int) < d := by omega
      have hnb := nodeF_hi (d := d) (x := x) (k := k) (by omega)
      have hdb := dgF_bd d x k
      have HN := Lib.hid (show 2 * nodeF (dgF d x) k + dgF d x k = nodeF (dgF d x) (k + 1) from rfl)
      have HWS := Lib.hid (wayTo_snoc d x k)
      obtain ⟨v, hv⟩ : ∃ z, nodeF (dgF d x) k = z := ⟨_, rfl⟩
      rw [hv] at hnb HN HWS
      rw [hv]
      clear hv
      have hw1 : IntKind.i64.wrap (2 * v) = 2 * v := by
        unfold IntKind.wrap; simp [IntKind.bits, IntKind.signed]; omega
      go_wp2_with (at_builtin; refine wpList_accAt rfl _ _ 29 rfl 2 _ 1 8 Tryz.underlying29 info_i64L rfl (by decide) (by decide) HA.out (Nat.le_refl _) rfl _ rfl [.int .i64 v] rfl rfl (fun u hu => by simp at hu; subst hu; rfl) (by omega) ?_; intro A3 d3 w9 hacc2; have HA9 := Lib.hid hacc2; clear hacc2)
      refine (digit_any d k x hd hlt hx hx2 w9).mono ?_
      rintro e w5 ⟨rfl, rfl⟩
      obtain ⟨z, hz⟩ : ∃ z, dgF d x k = z := ⟨_, rfl⟩
      rw [hz] at hdb HN ⊢
      clear hz
      have hw2 : IntKind.i64.wrap (2 * v + z) = 2 * v + z := by
        unfold IntKind.wrap; simp [IntKind.bits, IntKind.signed]; omega
      go_wp2
      go_roundw
      case rel => exact ⟨k + 1, A3, d3, by omega, by go_num, rfl, by rw [← HN.out], by rw [HWS.out, ← ints_snocL]; exact HA9.out⟩
      case measure => simp [RowKit.intOf]; omega
    · obtain rfl : d = k := by omega
      go_wp2
      go_ret
      exact ⟨A', d, d', rfl, HA.out.sl (Nat.le_refl _) (Nat.le_refl _), HA.out.below (Nat.le_refl _) (Nat.le_refl _)⟩
end Go.Proofs.YtjalgpioklcbfaaGreatDoor
namespace Go.Proofs.YtjalgpioklcbfaaGreatDoor
open Go.RowKit Go.Lib

def cellsSn (s : Sn) : List Value := [.bool s.l0, .bool s.l1, .bool s.a0, .bool s.a1]
def sns (l : List Sn) : List Value := l.flatMap cellsSn
def snSet (s : Sn) : Nat → Sn
  | 0 => { s with l0 := true }
  | 1 => { s with l1 := true }
  | 2 => { s with a0 := true }
  | _ => { s with a1 := true }
theorem cells_snSet (s : Sn) : ∀ i, i < 4 → (cellsSn s).set i (.bool true) = cellsSn (snSet s i)
  | 0, _ => rfl
  | 1, _ => rfl
  | 2, _ => rfl
  | 3, _ => rfl
theorem sns_set : ∀ (l : List Sn) (v i : Nat), v < l.length → i < 4 → (sns l).set (v * 4 + i) (.bool true) = sns (l.set v (snSet (l.getD v sn0) i))
  | [], v, i, hv, _ => by simp at hv
  | s :: l, 0, i, _, hi => by
    show (cellsSn s ++ sns l).set (0 * 4 + i) _ = cellsSn (snSet s i) ++ sns l
    rw [Nat.zero_mul, Nat.zero_add, List.set_append, if_pos (by simpa [cellsSn] using hi), cells_snSet s i hi]
  | s :: l, v + 1, i, hv, hi => by
    show (cellsSn s ++ sns l).set ((v + 1) * 4 + i) _ = cellsSn s ++ sns (l.set v (snSet (l.getD v sn0) i))
    have h1 : ¬ (v + 1) * 4 + i < (cellsSn s).length := by simp [cellsSn]; omega
    have h2 : (v + 1) * 4 + i - (cellsSn s).length = v * 4 + i := by simp [cellsSn]; omega
    rw [List.set_append, if_neg h1, h2, sns_set l v i (by simpa using hv) hi]
theorem sn_at {w : World} {g : Nat} {t : TypeId} {l : List Sn} {v : Nat} {s : Sn} (h : Blk w g t (sns l).toArray) (hs : l[v]? = some s) :
    w.cell? ⟨g, v * 4, none⟩ = some (.bool s.l0) ∧ w.cell? ⟨g, v * 4 + 1, none⟩ = some (.bool s.l1) ∧ w.cell? ⟨g, v * 4 + 2, none⟩ = some (.bool s.a0) ∧ w.cell? ⟨g, v * 4 + 3, none⟩ = some (.bool s.a1) := by
  have f := fun j hj => flat_get cellsSn 4 (fun _ => rfl) l v s hs j hj
  refine ⟨?_, ?_, ?_, ?_⟩
  · rw [h.cell, List.getElem?_toArray]; exact f 0 (by omega)
  · rw [h.cell, List.getElem?_toArray]; exact f 1 (by omega)
  · rw [h.cell, List.getElem?_toArray]; exact f 2 (by omega)
  · rw [h.cell, List.getElem?_toArray]; exact f 3 (by omega)
theorem make_sn (n : Nat) (hn : n ≤ 1048576) : ∀ w : World, (Instr.makeSlice 247 (.int .i64 (n : Int)) (.int .i64 (n : Int))).run Tryz.prog w = .ok (.slice (some ⟨w.heap.size, 0, none⟩) n n) (w.alloc (.cells (madeCells #[.bool false, .bool false, .bool false, .bool false] (n * 4)) 252)) :=
  run_make_small 247 252 (.agg #[.bool false, .bool false, .bool false, .bool false]) 4 4 Tryz.underlying247 (by kernel_rfl) (by decide) n hn
theorem sns_rep : ∀ n : Nat, sns (List.replicate n sn0) = List.replicate (n * 4) (.bool false)
  | 0 => rfl
  | n + 1 => by
    rw [List.replicate_succ, show sns (sn0 :: List.replicate n sn0) = cellsSn sn0 ++ sns (List.replicate n sn0) from rfl, sns_rep n, show (n + 1) * 4 = n * 4 + 1 + 1 + 1 + 1 by omega]
    rfl
theorem made_sn (n : Nat) : madeCells #[.bool false, .bool false, .bool false, .bool false] (n * 4) = (sns (List.replicate n sn0)).toArray := by
  rw [sns_rep]
  refine Array.ext (by simp [madeCells]) fun i h1 h2 => ?_
  simp only [madeCells, Array.getElem_map, Array.getElem_range, List.getElem_toArray, List.getElem_replicate]
  have : i % 4 = 0 ∨ i % 4 = 1 ∨ i % 4 = 2 ∨ i % 4 = 3 := by omega
  rcases this with h | h | h | h <;> simp [h]
theorem letter_any (s : Sn) (w : World) :
    Calls Tryz.prog 218 #[.agg #[.bool s.l0, .bool s.l1, .bool s.a0, .bool s.a1]] w fun e w' => e = .returned (.int .u8 (if s.a0 = true then 48 else if s.a1 = true then 49 else if s.l0 = true ∧ s.l1 = true then 119 else if s.l0 = true then 97 else if s.l1 = true then 98 else 63)) ∧ Below w.heap.size w w' := by
  obtain ⟨l0, l1, a0, a1⟩ := s
  obtain ⟨W, hW, y0, hb⟩ : ∃ W, W = w.alloc (.cells #[.bool l0, .bool l1, .bool a0, .bool a1] 252) ∧ Blk W w.heap.size 252 #[.bool l0, .bool l1, .bool a0, .bool a1] ∧ Below w.heap.size w W := ⟨_, rfl, Blk.new _ _ _, (Below.refl _ _).alloc (Nat.le_refl _) _⟩
  have HW := Lib.hid hW
  have HB := Lib.hid hb
  have c0 := y0.cellAt 0 (by simp)
  have c1 := y0.cellAt 1 (by simp)
  have c2 := y0.cellAt 2 (by simp)
  have c3 := y0.cellAt 3 (by simp)
  simp only [List.getElem_toArray, List.getElem_cons_zero, List.getElem_cons_succ] at c0 c1 c2 c3
  clear hW hb y0
  cases a0 <;> cases a1 <;> cases l0 <;> cases l1 <;> (
    go_enter Tryz.func218, Tryz.ntmps218
    go_upto_region 1 with fail
    rw [← HW.out]
    go_wp2
    go_ret
    exact ⟨rfl, HB.out⟩)
theorem seenBy1_any (s : Sn) (w : World) :
    Calls Tryz.prog 269 #[.agg #[.bool s.l0, .bool s.l1, .bool s.a0, .bool s.a1]] w fun e w' => e = .returned (.bool (clash s)) ∧ Below w.heap.size w w' := by
  obtain ⟨l0, l1, a0, a1⟩ := s
  obtain ⟨W, hW, y0, hb⟩ : ∃ W, W = w.alloc (.cells #[.bool l0, .bool l1, .bool a0, .bool a1] 252) ∧ Blk W w.heap.size 252 #[.bool l0, .bool l1, .bool a0, .bool a1] ∧ Below w.heap.size w W := ⟨_, rfl, Blk.new _ _ _, (Below.refl _ _).alloc (Nat.le_refl _) _⟩
  have HW := Lib.hid hW
  have HB := Lib.hid hb
  have c0 := y0.cellAt 0 (by simp)
  have c1 := y0.cellAt 1 (by simp)
  have c2 := y0.cellAt 2 (by simp)
  have c3 := y0.cellAt 3 (by simp)
  simp only [List.getElem_toArray, List.getElem_cons_zero, List.getElem_cons_succ] at c0 c1 c2 c3
  clear hW hb y0
  cases a0 <;> cases a1 <;> cases l0 <;> cases l1 <;> (
    go_enter Tryz.func269, Tryz.ntmps269
    go_upto_region 1 with fail
    rw [← HW.out]
    go_wp2
    go_ret
    exact ⟨rfl, HB.out⟩)
theorem indexFuncSn_any (n c g : Nat) (l : List Sn) (w : World) (h : Blk w g 252 (sns l).toArray) (hl : l.length = n) (hn : n ≤ 1048576) :
    Calls Tryz.prog 305 #[.slice (some ⟨g, 0, none⟩) n c, .func (.func 269) #[] #[]] w fun e w' => e = .returned (.int .i64 (idxI clash l)) ∧ Below w.heap.size w w' := by
  have HL := Lib.hid hl
  have HY := Lib.hid h
  clear hl h
  go_enter Tryz.func305, Tryz.ntmps305
  go_wp2
  go_loopw [8] (fun i wr => ∃ k : Nat, k ≤ n ∧ i = .int .i64 k ∧ AllTo (fun x => !clash x) l k ∧ Below w.heap.size w wr) (fun i _ => n - (RowKit.intOf i).toNat)
  case atStart => exact ⟨0, Nat.zero_le _, rfl, AllTo.zero _ _, Below.refl _ _⟩
  case round =>
    obtain ⟨k, hk, rfl, hall, hbel⟩ := hrel
    have HA := Lib.hid hall
    have HB := Lib.hid hbel
    clear hall
    by_cases hlt : k < n
    · obtain ⟨x, hx⟩ : ∃ x, l[k]? = some x := ⟨_, List.getElem?_eq_getElem (show k < l.length by have := HL.out; omega)⟩
      obtain ⟨c0, c1, c2, c3⟩ := sn_at (HY.out.on hbel) hx
      have HE := Lib.hid hx
      clear hbel hx
      go_wp2_with fail
      refine (seenBy1_any x _).mono ?_
      rintro e w1 ⟨rfl, b1⟩
      have HF := Lib.hid (bnext HB.out b1 (Nat.le_refl _))
      clear b1 c0 c1 c2 c3
      rcases ho : clash x with _ | _
      · have HO := Lib.hid ho
        go_wp2
        go_roundw
        case rel => exact ⟨k + 1, by omega, by go_num, HA.out.step HE.out (by rw [HO.out]; rfl), HF.out⟩
        case measure => simp [RowKit.intOf]; omega
      · have HO := Lib.hid (show idxI clash l = k from idxI_found HE.out ho (HA.out.imp fun x hx => by simpa using hx))
        go_wp2
        go_ret
        exact ⟨ret_int HO.out.symm, HF.out⟩
    · obtain rfl : k = n := by omega
      have HO := Lib.hid (show idxI clash l = -1 from idxI_none (HA.out.imp fun x hx => by simpa using hx) HL.out)
      go_wp2
      go_ret
      exact ⟨ret_int HO.out.symm, HB.out⟩
theorem containsFuncSn_any (n c g : Nat) (l : List Sn) (w : World) (h : Blk w g 252 (sns l).toArray) (hl : l.length = n) (hn : n ≤ 1048576) :
    Calls Tryz.prog 268 #[.slice (some ⟨g, 0, none⟩) n c, .func (.func 269) #[] #[]] w fun e w' => e = .returned (.bool (l.any clash)) ∧ Below w.heap.size w w' := by
  have HO := Lib.hid (show decide (0 ≤ idxI clash l) = l.any clash from by rw [idxI_nonneg])
  have HC := Lib.hid (indexFuncSn_any n c g l w h hl hn)
  clear h hl
  go_enter Tryz.func268, Tryz.ntmps268
  go_wp2_with fail
  refine HC.out.mono ?_
  rintro e w1 ⟨rfl, b1⟩
  go_wp2
  go_ret
  exact ⟨ret_bool HO.out, b1⟩
end Go.Proofs.YtjalgpioklcbfaaGreatDoor
