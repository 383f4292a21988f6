/- The console's small functions: the shape of a word, the code's name, a line of numbers. Items of a queue in memory; small functions of Go's library; the queue tested. A table of texts that is a variable of the program: from the row's condition to what the walks read. The desk as text, both sides. -/
import Derived.Test.YtjalgpioklcbfaaGreatDoorKNtW
import Derived.Test.YtjalgpioklcbfaaGreatDoorMgConsoleAI
import Derived.Test.YtjalgpioklcbfaaGreatDoorMgConsoleAB
import Derived.Test.YtjalgpioklcbfaaGreatDoorMgConsoleAG
import Derived.Test.YtjalgpioklcbfaaGreatDoorMgConsoleAJ
import Derived.Test.YtjalgpioklcbfaaGreatDoorKShelf
import Derived.Lib.LaidTab
import Derived.Test.YtjalgpioklcbfaaGreatDoorKVdY
import Derived.Test.YtjalgpioklcbfaaGreatDoorMgConsoleAA
import Derived.Test.YtjalgpioklcbfaaGreatDoorMgConsoleAD
import Derived.Test.YtjalgpioklcbfaaGreatDoorMgConsoleAC
import Derived.Deep.RegionHeld3
set_option linter.unusedVariables false
set_option linter.unusedSimpArgs false
namespace Go.Proofs.YtjalgpioklcbfaaGreatDoor
open Go.RowKit Go.Lib

def deskW : List ByteArray := [⟨#[101, 110, 116, 101, 114]⟩, ⟨#[102, 114, 101, 101]⟩, ⟨#[108, 111, 103]⟩, ⟨#[110, 101, 116]⟩, ⟨#[113, 117, 101, 117, 101]⟩, ⟨#[114, 117, 110]⟩, ⟨#[114, 117, 110, 115]⟩, ⟨#[115, 101, 97, 114, 99, 104]⟩, ⟨#[115, 116, 117, 99, 107]⟩, ⟨#[116, 105, 109, 101, 115]⟩, ⟨#[119, 97, 121]⟩]
def shp (s : ByteArray) : ByteArray :=
  if (s.toList == [110, 101, 116]) = true then ⟨#[43]⟩ else if (s.toList == [116, 105, 109, 101, 115]) = true then ⟨#[42]⟩ else if (s.toList == [113, 117, 101, 117, 101]) = true then ⟨#[42]⟩ else if (s.toList == [119, 97, 121]) = true then ⟨#[110, 110]⟩ else if (s.toList == [114, 117, 110]) = true then ⟨#[110, 42]⟩ else if (s.toList == [115, 101, 97, 114, 99, 104]) = true then ⟨#[110, 42]⟩ else if (s.toList == [115, 116, 117, 99, 107]) = true then ⟨#[110, 42]⟩ else if (s.toList == [102, 114, 101, 101]) = true then ⟨#[110, 110, 110]⟩ else if (s.toList == [101, 110, 116, 101, 114]) = true then ⟨#[110, 119, 110]⟩ else ⟨#[]⟩
theorem deskShape_any (s : ByteArray) (w : World) :
    Calls Tryz.prog 28 #[.string s] w fun e w' => e = .returned (.string (shp s)) ∧ w' = w := by
  rcases e0 : (s.toList == [110, 101, 116]) with _ | _
  rotate_left
  · have HO := Lib.hid (show shp s = ⟨#[43]⟩ by unfold shp; rw [if_pos e0])
    go_enter Tryz.func28, Tryz.ntmps28
    go_wp2
    go_ret
    exact ⟨by rw [HO.out]; rfl, rfl⟩
  rcases e1 : (s.toList == [116, 105, 109, 101, 115]) with _ | _
  rotate_left
  · have HO := Lib.hid (show shp s = ⟨#[42]⟩ by unfold shp; rw [if_neg (by rw [e0]; decide), if_pos e1])
    go_enter Tryz.func28, Tryz.ntmps28
    go_wp2
    go_ret
    exact ⟨by rw [HO.out]; rfl, rfl⟩
  rcases e2 : (s.toList == [113, 117, 101, 117, 101]) with _ | _
  rotate_left
  · have HO := Lib.hid (show shp s = ⟨#[42]⟩ by unfold shp; rw [if_neg (by rw [e0]; decide), if_neg (by rw [e1]; decide), if_pos e2])
    go_enter Tryz.func28, Tryz.ntmps28
    go_wp2
    go_ret
    exact ⟨by rw [HO.out]; rfl, rfl⟩
  rcases e3 : (s.toList == [119, 97, 121]) with _ | _
  rotate_left
  · have HO := Lib.hid (show shp s = ⟨#[110, 110]⟩ by unfold shp; rw [if_neg (by rw [e0]; decide), if_neg (by rw [e1]; decide), if_neg (by rw [e2]; decide), if_pos e3])
    go_enter Tryz.func28, Tryz.ntmps28
    go_wp2
    go_ret
    exact ⟨by rw [HO.out]; rfl, rfl⟩
  rcases e4 : (s.toList == [114, 117, 110]) with _ | _
  rotate_left
  · have HO := Lib.hid (show shp s = ⟨#[110, 42]⟩ by unfold shp; rw [if_neg (by rw [e0]; decide), if_neg (by rw [e1]; decide), if_neg (by rw [e2]; decide), if_neg (by rw [e3]; decide), if_pos e4])
    go_enter Tryz.func28, Tryz.ntmps28
    go_wp2
    go_ret
    exact ⟨by rw [HO.out]; rfl, rfl⟩
  rcases e5 : (s.toList == [115, 101, 97, 114, 99, 104]) with _ | _
  rotate_left
  · have HO := Lib.hid (show shp s = ⟨#[110, 42]⟩ by unfold shp; rw [if_neg (by rw [e0]; decide), if_neg (by rw [e1]; decide), if_neg (by rw [e2]; decide), if_neg (by rw [e3]; decide), if_neg (by rw [e4]; decide), if_pos e5])
    go_enter Tryz.func28, Tryz.ntmps28
    go_wp2
    go_ret
    exact ⟨by rw [HO.out]; rfl, rfl⟩
  rcases e6 : (s.toList == [115, 116, 117, 99, 107]) with _ | _
  rotate_left
  · have HO := Lib.hid (show shp s = ⟨#[110, 42]⟩ by unfold shp; rw [if_neg (by rw [e0]; decide), if_neg (by rw [e1]; decide), if_neg (by rw [e2]; decide), if_neg (by rw [e3]; decide), if_neg (by rw [e4]; decide), if_neg (by rw [e5]; decide), if_pos e6])
    go_enter Tryz.func28, Tryz.ntmps28
    go_wp2
    go_ret
    exact ⟨by rw [HO.out]; rfl, rfl⟩
  rcases e7 : (s.toList == [102, 114, 101, 101]) with _ | _
  rotate_left
  · have HO := Lib.hid (show shp s = ⟨#[110, 110, 110]⟩ by unfold shp; rw [if_neg (by rw [e0]; decide), if_neg (by rw [e1]; decide), if_neg (by rw [e2]; decide), if_neg (by rw [e3]; decide), if_neg (by rw [e4]; decide), if_neg (by rw [e5]; decide), if_neg (by rw [e6]; decide), if_pos e7])
    go_enter Tryz.func28, Tryz.ntmps28
    go_wp2
    go_ret
    exact ⟨by rw [HO.out]; rfl, rfl⟩
  rcases e8 : (s.toList == [101, 110, 116, 101, 114]) with _ | _
  rotate_left
  · have HO := Lib.hid (show shp s = ⟨#[110, 119, 110]⟩ by unfold shp; rw [if_neg (by rw [e0]; decide), if_neg (by rw [e1]; decide), if_neg (by rw [e2]; decide), if_neg (by rw [e3]; decide), if_neg (by rw [e4]; decide), if_neg (by rw [e5]; decide), if_neg (by rw [e6]; decide), if_neg (by rw [e7]; decide), if_pos e8])
    go_enter Tryz.func28, Tryz.ntmps28
    go_wp2
    go_ret
    exact ⟨by rw [HO.out]; rfl, rfl⟩
  have HO := Lib.hid (show shp s = ⟨#[]⟩ by unfold shp; rw [if_neg (by rw [e0]; decide), if_neg (by rw [e1]; decide), if_neg (by rw [e2]; decide), if_neg (by rw [e3]; decide), if_neg (by rw [e4]; decide), if_neg (by rw [e5]; decide), if_neg (by rw [e6]; decide), if_neg (by rw [e7]; decide), if_neg (by rw [e8]; decide)])
  go_enter Tryz.func28, Tryz.ntmps28
  go_wp2
  go_ret
  exact ⟨by rw [HO.out]; rfl, rfl⟩
theorem deskWords_any (w : World) : Calls Tryz.prog 32 #[] w fun e w' => ∃ A, e = .returned (.slice A 11 11) ∧ Sl w' w.heap.size w'.heap.size 9 1 A 11 11 (strs deskW) ∧ Below w.heap.size w w' := by
  go_enter Tryz.func32, Tryz.ntmps32
  go_wp2
  go_ret
  exact ⟨_, rfl, Sl.of_blk (Blk.new _ _ _) (Nat.le_refl _) (by simp) rfl (by decide), (Below.refl _ _).alloc (Nat.le_refl _) _⟩
def cnm : List ByteArray := [⟨#[111, 107]⟩, ⟨#[105, 110, 118, 97, 108, 105, 100]⟩, ⟨#[114, 97, 110, 103, 101]⟩, ⟨#[110, 111, 116, 45, 102, 111, 117, 110, 100]⟩, ⟨#[101, 120, 105, 115, 116, 115]⟩, ⟨#[102, 117, 108, 108]⟩, ⟨#[115, 116, 97, 116, 101]⟩, ⟨#[115, 121, 110, 116, 97, 120]⟩, ⟨#[102, 111, 114, 109, 97, 116]⟩, ⟨#[99, 108, 97, 115, 104]⟩, ⟨#[115, 116, 117, 99, 107]⟩]
/-- The table of the codes' names, as the program's start lays it. -/
def CnP (w : World) : Prop := ∀ (i : Nat) (x : ByteArray), cnm[i]? = some x → w.cell? ⟨0, i, none⟩ = some (.string x)
theorem CnP.on {w w' : World} (h : CnP w) (hb : Below w.heap.size w w') : CnP w' := fun i x hx => cell_on hb (h i x hx)
theorem codeName_any (n : Nat) (hn : n ≤ 10) (w : World) (h : CnP w) : Calls Tryz.prog 35 #[.int .i64 (n : Int)] w fun e w' => e = .returned (.string (cnm.getD n ⟨#[]⟩)) ∧ w' = w := by
  have he : cnm[n]? = some (cnm.getD n ⟨#[]⟩) := by
    rw [List.getD_eq_getElem?_getD, List.getElem?_eq_getElem (show n < cnm.length by simp [cnm]; omega)]; rfl
  have c0 := h n _ he
  obtain ⟨x, hx⟩ : ∃ z, cnm.getD n ⟨#[]⟩ = z := ⟨_, rfl⟩
  rw [hx] at c0 ⊢
  have hr : inR (n : Int) 0 10 = true := inR_true.2 ⟨by omega, by omega⟩
  clear he hx h
  go_enter Tryz.func35, Tryz.ntmps35
  go_wp2_with fail
  refine (within_any _ _ _ _).mono ?_
  rintro e w1 ⟨rfl, rfl⟩
  rw [hr]
  go_wp2
  go_ret
  exact ⟨rfl, rfl⟩
/-- Numbers in one line. -/
def i64b (n : Int) : Prop := -9223372036854775808 ≤ n ∧ n ≤ 9223372036854775807
def numT (l : List Int) : List UInt8 := joinL 32 (l.map itoa)
def numLn (l : List Int) : List UInt8 := if l = [] then [45] else numT l
theorem numT_len {l : List Int} (hs : ∀ x ∈ l, i64b x) : (numT l).length ≤ l.length * 21 := by
  have := joinL_len 32 20 (l.map itoa) (fun y hy => by
    rw [List.mem_map] at hy
    obtain ⟨x, hx, rfl⟩ := hy
    exact itoa_len (hs x hx).1 (hs x hx).2)
  rwa [List.length_map] at this
def numW (l : List Int) : List ByteArray := l.map fun x => asBytes (itoa x)
theorem numW_step {l : List Int} {k : Nat} {x : Int} (h : l[k]? = some x) : numW (l.take (k + 1)) = numW (l.take k) ++ [asBytes (itoa x)] := by
  simp [numW, List.take_add_one, h]
theorem numW_join (l : List Int) : joinL 32 ((numW l).map fun s => s.data.toList) = numT l := by
  simp [numW, numT, data_asBytes, Function.comp_def]
set_option maxHeartbeats 1000000 in
theorem numbersText_any (A : Option Addr) (n c B : Nat) (l : List Int) (w : World) (h : Reads w B 1 A n (ints l)) (hB : B ≤ w.heap.size) (hn : n ≤ 1048576) (hs : ∀ x ∈ l, i64b x) (ht : TabP w) :
    Calls Tryz.prog 146 #[.string ⟨#[32]⟩, .slice A n c] w fun e w' => e = .returned (.string (asBytes (numT l))) ∧ Below w.heap.size w w' := by
  have HL := Lib.hid (ints_len h)
  have HR := Lib.hid h
  have HT := Lib.hid ht
  have HSM := Lib.hid hs
  have acc0 := Acc.made w 9 1
  clear h hs ht
  go_enter Tryz.func146, Tryz.ntmps146
  go_wp2_with fail
  go_loopw [5, 11] (fun o i wr => ∃ (k : Nat) (A' : Option Addr) (d' : Nat), k ≤ n ∧ i = .int .i64 (k : Int) ∧ o = .slice A' k d' ∧ Acc w.heap.size w.heap.size 9 1 w wr A' k d' (strs (numW (l.take k)))) (fun _ i _ => n - (RowKit.intOf i).toNat)
  case atStart => exact ⟨0, _, _, Nat.zero_le _, rfl, rfl, acc0⟩
  case round =>
    obtain ⟨k, A', d', hk, rfl, rfl, hacc⟩ := hrel
    have HA := Lib.hid hacc
    have HBr := Lib.hid (hacc.below (B := w.heap.size) (Nat.le_refl _) (Nat.le_refl _))
    clear acc0 hacc
    have hk0 : (0 : Int) ≤ k := by omega
    by_cases hlt : k < n
    · obtain ⟨x, b, off, he, rfl, hb, c0⟩ := int_at (HR.out.on hB HBr.out) hlt
      have hx := HSM.out x (List.mem_of_getElem? he)
      have HE := Lib.hid (numW_step he)
      have hkn : (k : Int) < n := by omega
      clear he
      go_wp2_with fail
      refine (decimal_any x wr hx.1 hx.2 (tabUp HT.out HBr.out)).mono ?_
      rintro e w2 ⟨rfl, b2⟩
      have HA2 := Lib.hid (HA.out.on b2 (Nat.le_refl _))
      clear b2 hx
      go_wp2_with (at_builtin; refine wpList_accAt rfl _ _ 24 rfl 9 _ 1 16 Tryz.underlying24 info_str9 rfl (by decide) (by decide) HA2.out (Nat.le_refl _) rfl _ rfl [.string (asBytes (itoa x))] rfl rfl (fun u hu => by simp at hu; subst hu; rfl) (by omega) ?_; intro A3 d3 w9 hacc2; have HA9 := Lib.hid hacc2; clear hacc2)
      go_roundw
      case rel => exact ⟨k + 1, A3, d3, by omega, by go_num, rfl, by rw [HE.out, strs_snoc9]; exact HA9.out⟩
      case measure => simp [RowKit.intOf]; omega
    · obtain rfl : n = k := by omega
      have hta : l.take n = l := by rw [← HL.out, List.take_length]
      have hsl := HA.out.sl (lo := w.heap.size) (Nat.le_refl _) (Nat.le_refl _)
      rw [hta] at hsl
      have HS := Lib.hid hsl
      have HJ := Lib.hid (numW_join l)
      have HJL := Lib.hid (numT_len HSM.out)
      clear hsl hta
      go_wp2_with fail
      refine (strJoin_any 32 A' n d' w.heap.size wr.heap.size (numW l) wr HS.out (by omega) (by rw [HJ.out]; have := HJL.out; have := HL.out; omega)).mono ?_
      rintro e w3 ⟨rfl, b3⟩
      have HB3 := Lib.hid (bnext HBr.out b3 (Nat.le_refl _))
      clear b3
      rw [HJ.out]
      go_wp2
      go_ret
      exact ⟨rfl, HB3.out⟩
theorem numbersLine_any (A : Option Addr) (n c B : Nat) (l : List Int) (w : World) (h : Reads w B 1 A n (ints l)) (hB : B ≤ w.heap.size) (hn : n ≤ 1048576) (hs : ∀ x ∈ l, i64b x) (ht : TabP w) :
    Calls Tryz.prog 82 #[.slice A n c] w fun e w' => e = .returned (.string (asBytes (numLn l))) ∧ Below w.heap.size w w' := by
  have hl := ints_len h
  by_cases h0 : n = 0
  · subst h0
    have HO := Lib.hid (show numLn l = [45] by unfold numLn; rw [if_pos (List.eq_nil_of_length_eq_zero hl)])
    clear h hl
    go_enter Tryz.func82, Tryz.ntmps82
    go_wp2
    go_ret
    exact ⟨by rw [HO.out]; rfl, Below.refl _ _⟩
  · have HO := Lib.hid (show numLn l = numT l by unfold numLn; rw [if_neg (by intro e; rw [e] at hl; simp at hl; omega)])
    have HC := Lib.hid (numbersText_any A n c B l w h hB hn hs ht)
    have hz : ((n : Int) == 0) = false := by simpa using h0
    clear h hl
    go_enter Tryz.func82, Tryz.ntmps82
    go_wp2_with fail
    refine HC.out.mono ?_
    rintro e w1 ⟨rfl, b1⟩
    go_wp2
    go_ret
    exact ⟨by rw [HO.out]; rfl, b1⟩
end Go.Proofs.YtjalgpioklcbfaaGreatDoor
namespace Go.Proofs.YtjalgpioklcbfaaGreatDoor
open Go.RowKit Go.Lib

def itT (x : It) : Tb := ⟨x.arr, x.tick, x.cls⟩
def its (l : List It) : List Value := tbs (l.map itT)
theorem its_len {w : World} {B n : Nat} {A : Option Addr} {l : List It} (h : Reads w B 3 A n (its l)) : l.length = n := by
  have := tbs_len h
  rwa [List.length_map] at this
theorem it_at {w : World} {B n k : Nat} {A : Option Addr} {l : List It} (h : Reads w B 3 A n (its l)) (hk : k < n) :
    ∃ (x : It) (b off : Nat), l[k]? = some x ∧ A = some ⟨b, off, none⟩ ∧ b < B ∧ w.cell? ⟨b, off + k * 3, none⟩ = some (.int .i64 x.arr) ∧ w.cell? ⟨b, off + k * 3 + 1, none⟩ = some (.int .i64 x.tick) ∧ w.cell? ⟨b, off + k * 3 + 2, none⟩ = some (.int .i64 x.cls) := by
  obtain ⟨t, b, off, he, h1, h2, c0, c1, c2⟩ := tb_at h hk
  rw [List.getElem?_map] at he
  cases hx : l[k]? with
  | none => rw [hx] at he; cases he
  | some x =>
    rw [hx] at he
    injection he with he
    subst he
    exact ⟨x, b, off, rfl, h1, h2, c0, c1, c2⟩
theorem compareI_any (a b : Int) (w : World) : Calls Tryz.prog 212 #[.int .i64 a, .int .i64 b] w fun e w' => e = .returned (.int .i64 (Lib.compareInt a b)) ∧ w' = w := Tryz.cmp_Compare_int a b w
def orF (a b : Int) : Int := if a = 0 then b else a
theorem orI_any (g : Nat) (a b : Int) (w : World) (h : Blk w g 3 #[.int .i64 a, .int .i64 b]) :
    Calls Tryz.prog 211 #[.slice (some ⟨g, 0, none⟩) 2 2] w fun e w' => e = .returned (.int .i64 (orF a b)) ∧ w' = w := by
  have c0 := h.cellAt 0 (by simp)
  have c1 := h.cellAt 1 (by simp)
  simp only [List.getElem_toArray, List.getElem_cons_zero, List.getElem_cons_succ] at c0 c1
  by_cases ha : a = 0
  · have HO := Lib.hid (show orF a b = b by simp [orF, ha])
    subst ha
    by_cases hb : b = 0
    · subst hb
      go_enter Tryz.func211, Tryz.ntmps211
      go_wp2
      go_loop [8] (fun i => i = .int .i64 0 ∨ i = .int .i64 1 ∨ i = .int .i64 2) (fun i => 2 - (RowKit.intOf i).toNat)
      case atStart => exact .inl rfl
      case round =>
        rcases hrel with rfl | rfl | rfl
        · go_wp2
          go_round
          case rel => exact .inr (.inl rfl)
          case measure => simp [RowKit.intOf]
        · go_wp2
          go_round
          case rel => exact .inr (.inr rfl)
          case measure => simp [RowKit.intOf]
        · go_wp2
          go_ret
          exact ⟨ret_int HO.out.symm, rfl⟩
    · have hq : (b != 0) = true := by simpa using hb
      go_enter Tryz.func211, Tryz.ntmps211
      go_wp2
      go_loop [8] (fun i => i = .int .i64 0 ∨ i = .int .i64 1) (fun i => 2 - (RowKit.intOf i).toNat)
      case atStart => exact .inl rfl
      case round =>
        rcases hrel with rfl | rfl
        · go_wp2
          go_round
          case rel => exact .inr rfl
          case measure => simp [RowKit.intOf]
        · go_wp2
          go_ret
          exact ⟨ret_int HO.out.symm, rfl⟩
  · have HO := Lib.hid (show orF a b = a by simp [orF, ha])
    have hq : (a != 0) = true := by simpa using ha
    go_enter Tryz.func211, Tryz.ntmps211
    go_wp2
    go_loop [8] (fun i => i = .int .i64 0) (fun i => 2 - (RowKit.intOf i).toNat)
    case atStart => rfl
    case round =>
      subst hrel
      go_wp2
      go_ret
      exact ⟨ret_int HO.out.symm, rfl⟩
theorem indexI_any (A : Option Addr) (n c B : Nat) (l : List Int) (x : Int) (w : World) (h : Reads w B 1 A n (ints l)) (hn : n ≤ 1048576) :
    Calls Tryz.prog 271 #[.slice A n c, .int .i64 x] w fun e w' => ∃ r : Int, e = .returned (.int .i64 r) ∧ (0 ≤ r ↔ hasI l x = true) ∧ w' = w := by
  have hl := Lib.hid (ints_len h)
  go_enter Tryz.func271, Tryz.ntmps271
  go_wp2
  go_loop [8] (fun i => ∃ k : Nat, k ≤ n ∧ i = .int .i64 k ∧ ∀ j y, j < k → l[j]? = some y → y ≠ x) (fun i => n - (RowKit.intOf i).toNat)
  case atStart => exact ⟨0, Nat.zero_le _, rfl, fun j y hj => by omega⟩
  case round =>
    obtain ⟨k, hk, rfl, hall⟩ := hrel
    have HA := Lib.hid hall
    clear hall
    have hk0 : (0 : Int) ≤ k := by omega
    by_cases hlt : k < n
    · obtain ⟨y, b, off, he, rfl, hb, c0⟩ := int_at h hlt
      have HE := Lib.hid he
      have hkn : (k : Int) < n := by omega
      clear he
      by_cases hxy : x = y
      · have hq : (x == y) = true := by rw [hxy]; simp
        have HO := Lib.hid (show hasI l x = true by unfold hasI; rw [List.any_eq_true]; exact ⟨y, List.mem_of_getElem? HE.out, by simp [hxy]⟩)
        clear hxy h
        go_wp2
        go_ret
        exact ⟨(k : Int), rfl, ⟨fun _ => HO.out, fun _ => hk0⟩, rfl⟩
      · have hq : (x == y) = false := by simpa using hxy
        have HX := Lib.hid hxy
        clear hxy
        go_wp2
        go_round
        case rel =>
          refine ⟨k + 1, by omega, by go_num, fun j z hj hz => ?_⟩
          by_cases e : j = k
          · subst e
            rw [HE.out] at hz
            injection hz with hz
            rw [← hz]
            exact fun h => HX.out h.symm
          · exact HA.out j z (by omega) hz
        case measure => simp [RowKit.intOf]; omega
    · obtain rfl : k = n := by omega
      have HO := Lib.hid (show ¬ hasI l x = true by
        unfold hasI
        rw [List.any_eq_true]
        rintro ⟨y, hy, hyx⟩
        obtain ⟨j, hj, he⟩ := List.getElem_of_mem hy
        exact HA.out j y (by have := hl.out; omega) (by rw [List.getElem?_eq_getElem hj, he]) (by simpa using hyx))
      go_wp2
      go_ret
      exact ⟨-1, rfl, ⟨fun h => by omega, fun h => absurd h HO.out⟩, rfl⟩
theorem containsI_any (A : Option Addr) (n c B : Nat) (l : List Int) (x : Int) (w : World) (h : Reads w B 1 A n (ints l)) (hn : n ≤ 1048576) :
    Calls Tryz.prog 222 #[.slice A n c, .int .i64 x] w fun e w' => e = .returned (.bool (hasI l x)) ∧ w' = w := by
  go_enter Tryz.func222, Tryz.ntmps222
  go_wp2_with fail
  refine (indexI_any A n c B l x w h hn).mono ?_
  rintro e w1 ⟨r, rfl, hr, rfl⟩
  have HO := Lib.hid (show decide (0 ≤ r) = hasI l x by
    rcases e : hasI l x with _ | _
    · rw [e] at hr; exact decide_eq_false (fun h => by have := hr.1 h; cases this)
    · exact decide_eq_true (hr.2 e))
  clear hr
  go_wp2
  go_ret
  exact ⟨ret_bool HO.out, rfl⟩
theorem validQueue1_any (x : It) (w : World) :
    Calls Tryz.prog 220 #[.agg #[.int .i64 x.arr, .int .i64 x.tick, .int .i64 x.cls]] w fun e w' => e = .returned (.bool (!okIt x)) ∧ Below w.heap.size w w' := by
  obtain ⟨W, hW, y0, hb⟩ : ∃ W, W = w.alloc (.cells #[.int .i64 x.arr, .int .i64 x.tick, .int .i64 x.cls] 140) ∧ Blk W w.heap.size 140 #[.int .i64 x.arr, .int .i64 x.tick, .int .i64 x.cls] ∧ Below w.heap.size w W := ⟨_, rfl, Blk.new _ _ _, (Below.refl _ _).alloc (Nat.le_refl _) _⟩
  have HW := Lib.hid hW
  have HB := Lib.hid hb
  have c0 := y0.cellAt 0 (by simp)
  have c1 := y0.cellAt 1 (by simp)
  have c2 := y0.cellAt 2 (by simp)
  simp only [List.getElem_toArray, List.getElem_cons_zero, List.getElem_cons_succ] at c0 c1 c2
  clear hW hb y0
  have w1 := fun (v l h : Int) => within_any v l h W
  go_enter Tryz.func220, Tryz.ntmps220
  go_upto_region 1 with fail
  rw [← HW.out]
  rcases e1 : inR x.arr 0 10000 with _ | _
  · have HO := Lib.hid (show okIt x = false by simp [okIt, e1])
    go_wp2_with fail
    have hc := w1 x.arr 0 10000
    rw [e1] at hc
    refine hc.mono ?_
    rintro e w2 ⟨rfl, rfl⟩
    go_wp2
    go_ret
    exact ⟨ret_bool (by rw [HO.out]; rfl), HB.out⟩
  go_wp2_with fail
  have hc := w1 x.arr 0 10000
  rw [e1] at hc
  refine hc.mono ?_
  rintro e w2 ⟨rfl, rfl⟩
  rcases e2 : inR x.tick 1 1000 with _ | _
  · have HO := Lib.hid (show okIt x = false by simp [okIt, e1, e2])
    go_wp2_with fail
    have hc := w1 x.tick 1 1000
    rw [e2] at hc
    refine hc.mono ?_
    rintro e w2 ⟨rfl, rfl⟩
    go_wp2
    go_ret
    exact ⟨ret_bool (by rw [HO.out]; rfl), HB.out⟩
  go_wp2_with fail
  have hc := w1 x.tick 1 1000
  rw [e2] at hc
  refine hc.mono ?_
  rintro e w2 ⟨rfl, rfl⟩
  have HO := Lib.hid (show okIt x = inR x.cls 0 9 by simp [okIt, e1, e2])
  go_wp2_with fail
  have hc := w1 x.cls 0 9
  refine hc.mono ?_
  rintro e w2 ⟨rfl, rfl⟩
  go_wp2
  go_ret
  exact ⟨ret_bool (by rw [HO.out]), HB.out⟩
theorem indexFuncIt_any (A : Option Addr) (n c : Nat) (l : List It) (B : Nat) (w : World) (h : Reads w B 3 A n (its l)) (hB : B ≤ w.heap.size) (hn : n ≤ 1048576) :
    Calls Tryz.prog 270 #[.slice A n c, .func (.func 220) #[] #[]] w fun e w' => e = .returned (.int .i64 (idxI (fun x => !okIt x) l)) ∧ Below w.heap.size w w' := by
  have hl := Lib.hid (its_len h)
  go_enter Tryz.func270, Tryz.ntmps270
  go_wp2
  go_loopw [8] (fun i wr => ∃ k : Nat, k ≤ n ∧ i = .int .i64 k ∧ AllTo okIt l k ∧ Below w.heap.size w wr) (fun i _ => n - (RowKit.intOf i).toNat)
  case atStart => exact ⟨0, Nat.zero_le _, rfl, AllTo.zero _ _, Below.refl _ _⟩
  case round =>
    obtain ⟨k, hk, rfl, hall, hbel⟩ := hrel
    have HA := Lib.hid hall
    have HB := Lib.hid hbel
    clear hall
    by_cases hlt : k < n
    · obtain ⟨x, b, off, he, rfl, hb, c0, c1, c2⟩ := it_at (h.on hB hbel) hlt
      have HE := Lib.hid he
      clear he hbel h
      go_wp2_with fail
      refine (validQueue1_any x _).mono ?_
      rintro e w1 ⟨rfl, b1⟩
      have HF := Lib.hid (bnext HB.out b1 (Nat.le_refl _))
      clear b1 c0 c1 c2
      rcases ho : okIt x with _ | _
      · have HO := Lib.hid (show idxI (fun x => !okIt x) l = k from idxI_found HE.out (by simp [ho]) (HA.out.imp fun x hx => by simp [hx]))
        go_wp2
        go_ret
        exact ⟨ret_int HO.out.symm, HF.out⟩
      · have HO := Lib.hid ho
        go_wp2
        go_roundw
        case rel => exact ⟨k + 1, by omega, by go_num, HA.out.step HE.out HO.out, HF.out⟩
        case measure => simp [RowKit.intOf]; omega
    · obtain rfl : k = n := by omega
      have HO := Lib.hid (show idxI (fun x => !okIt x) l = -1 from idxI_none (HA.out.imp fun x hx => by simp [hx]) hl.out)
      go_wp2
      go_ret
      exact ⟨ret_int HO.out.symm, HB.out⟩
theorem containsFuncIt_any (A : Option Addr) (n c : Nat) (l : List It) (B : Nat) (w : World) (h : Reads w B 3 A n (its l)) (hB : B ≤ w.heap.size) (hn : n ≤ 1048576) :
    Calls Tryz.prog 219 #[.slice A n c, .func (.func 220) #[] #[]] w fun e w' => e = .returned (.bool (!l.all okIt)) ∧ Below w.heap.size w w' := by
  have HO := Lib.hid (show decide (0 ≤ idxI (fun x => !okIt x) l) = !l.all okIt from by rw [idxI_nonneg]; simp [List.any_eq_not_all_not])
  have HC := Lib.hid (indexFuncIt_any A n c l B w h hB hn)
  clear h
  go_enter Tryz.func219, Tryz.ntmps219
  go_wp2_with fail
  refine HC.out.mono ?_
  rintro e w1 ⟨rfl, b1⟩
  go_wp2
  go_ret
  exact ⟨ret_bool HO.out, b1⟩
theorem validQueue_any (A : Option Addr) (n c : Nat) (l : List It) (B : Nat) (w : World) (h : Reads w B 3 A n (its l)) (hB : B ≤ w.heap.size) (hn : n ≤ 1048576) :
    Calls Tryz.prog 157 #[.slice A n c] w fun e w' => e = .returned (.bool (okQ l)) ∧ Below w.heap.size w w' := by
  have hl := its_len h
  by_cases h9 : n ≤ 12
  · have hd : decide ((n : Int) ≤ 12) = true := decide_eq_true (by omega)
    have HO := Lib.hid (show okQ l = l.all okIt by simp [okQ, hl, h9])
    have HC := Lib.hid (containsFuncIt_any A n c l B w h hB hn)
    clear h hl
    go_enter Tryz.func157, Tryz.ntmps157
    go_wp2_with fail
    refine HC.out.mono ?_
    rintro e w1 ⟨rfl, b1⟩
    go_wp2
    go_ret
    exact ⟨ret_bool (by rw [HO.out]; try simp), b1⟩
  · have hd : decide ((n : Int) ≤ 12) = false := decide_eq_false (by omega)
    have HO := Lib.hid (show okQ l = false by simp [okQ, hl, h9])
    go_enter Tryz.func157, Tryz.ntmps157
    go_wp2
    go_ret
    exact ⟨ret_bool HO.out.symm, Below.refl _ _⟩
theorem served1_any (x : It) (g1 g2 : Nat) (w : World) (h : w.cell? ⟨g1, 0, none⟩ = some (.int .i64 0)) :
    Calls Tryz.prog 221 #[.agg #[.int .i64 x.arr, .int .i64 x.tick, .int .i64 x.cls], .pointer (some ⟨g1, 0, none⟩), .pointer (some ⟨g2, 0, none⟩)] w fun e w' => e = .returned (.int .i64 x.cls) ∧ Below w.heap.size w w' := by
  obtain ⟨W, hW, y0, hb⟩ : ∃ W, W = w.alloc (.cells #[.int .i64 x.arr, .int .i64 x.tick, .int .i64 x.cls] 140) ∧ Blk W w.heap.size 140 #[.int .i64 x.arr, .int .i64 x.tick, .int .i64 x.cls] ∧ Below w.heap.size w W := ⟨_, rfl, Blk.new _ _ _, (Below.refl _ _).alloc (Nat.le_refl _) _⟩
  have HW := Lib.hid hW
  have HB := Lib.hid hb
  replace h := cell_on hb h
  have c2 := y0.cellAt 2 (by simp)
  simp only [List.getElem_toArray, List.getElem_cons_zero, List.getElem_cons_succ] at c2
  clear hW hb y0
  go_enter Tryz.func221, Tryz.ntmps221
  go_upto_region 1 with fail
  rw [← HW.out]
  go_wp2
  go_ret
  exact ⟨rfl, HB.out⟩
end Go.Proofs.YtjalgpioklcbfaaGreatDoor
namespace Go.Proofs.YtjalgpioklcbfaaGreatDoor
open Go.RowKit Go.Lib

theorem cells_of_texts {H : Type} {enc : TypeId × Value → H} {P : Program} {w : World} {base : Nat} {sp : Nat → Bool} {held : Bool} {fuel : Nat} {t e : TypeId} {n : Nat} {cs : List Value} {zs : List ByteArray} {p : List MemPlace}
    (ht : P.underlying t = some (.array n e)) (he : P.underlying e = some .string) (hce : P.cellsOf e = 1) (hct : P.cellsOf t = n)
    (h : DataW.trod enc P w base sp held fuel t cs = some (.agg (zs.map fun z => .lit (.string z.data.toList)), p)) : cs = zs.map fun z => Value.string z := by
  cases fuel with
  | zero => simp [DataW.trod] at h
  | succ fuel =>
    simp only [DataW.trod, ht, hce, hct, Nat.mul_one] at h
    split at h
    · rename_i hl
      obtain ⟨xs, hm, hx⟩ := Option.map_eq_some_iff.1 h
      have hxs : xs.map (·.1) = zs.map fun z => (DataW.lit (.string z.data.toList) : DataW H) := by
        have := congrArg Prod.fst hx
        simpa using this
      have hxl : xs.length = n := by simpa using mapM_length hm
      have hzl : zs.length = n := by
        have := congrArg List.length hxs
        simp at this
        omega
      apply List.ext_getElem?
      intro i
      by_cases hi : i < n
      · obtain ⟨b, hb, hf⟩ := mapM_at hm i i (by simp [hi])
        obtain ⟨z, hc, rfl, _⟩ := DataW.trod_string he hf
        have h1 : cs[i]? = some (.string z) := by
          have := congrArg (·[0]?) hc
          simpa [List.getElem?_take, List.getElem?_drop] using this
        have h2 : (xs.map (·.1))[i]? = some (DataW.lit (.string z.data.toList) : DataW H) := by simp [hb]
        rw [hxs] at h2
        simp only [List.getElem?_map, Option.map_eq_some_iff, DataW.lit.injEq, Lit.string.injEq] at h2
        obtain ⟨z', hz', he'⟩ := h2
        have : z' = z := by rw [← asBytes_data z', ← asBytes_data z, he']
        subst this
        simp [h1, hz']
      · rw [List.getElem?_eq_none (by omega), List.getElem?_eq_none (by simp; omega)]
    · cases h
theorem cnp_of {W : World} {rest : List (String × DataW Unit)}
    (h : laidMet Tryz.prog (("loop.example/g01046/impl.codeNames", .agg (cnm.map fun z => .lit (.string z.data.toList))) :: rest) W) : CnP W := by
  obtain ⟨ps, ⟨g', t', cs, fuel, p, q, hg', ht', hvar, hd, _, _⟩, _⟩ := h
  have hg : Tryz.prog.globalNamed "loop.example/g01046/impl.codeNames" = some 0 := by kernel_rfl
  have hty : (Tryz.prog.globals[0]?).map (·.type) = some 114 := by kernel_rfl
  obtain rfl := Option.some.inj (hg.symm.trans hg')
  obtain rfl := Option.some.inj (hty.symm.trans ht')
  have hc := cells_of_texts (n := 11) (e := 9) Tryz.underlying114 Tryz.underlying9 (by kernel_rfl) (by kernel_rfl) hd
  intro i x hx
  have hv : W.var? Tryz.prog "loop.example/g01046/impl.codeNames" = some cs := hvar
  have := World.var?_cell hg hv i
  rw [this]
  have h2 : cs.toList[i]? = some (.string x) := by rw [hc, List.getElem?_map, hx]; rfl
  simpa using h2
end Go.Proofs.YtjalgpioklcbfaaGreatDoor
namespace Go.Proofs.YtjalgpioklcbfaaGreatDoor
open Go.RowKit Go.Lib

def textD (s : Int) (m k : Nat) : ByteArray := asBytes (itoa s) ++ ⟨#[32, 115, 116, 97, 116, 105, 111, 110, 115, 44, 32]⟩ ++ asBytes (itoa (m : Int)) ++ ⟨#[32, 116, 105, 109, 101, 115, 44, 32]⟩ ++ asBytes (itoa (k : Int)) ++ ⟨#[32, 114, 117, 110, 115]⟩
def textDk (d : Dk) : ByteArray := if okDk d = true then textD d.net.sta d.times.length d.runs.length else ⟨#[]⟩
theorem textDk_no {d : Dk} (h : okDk d = false) : textDk d = ⟨#[]⟩ := by simp [textDk, h]
theorem textDk_yes {d : Dk} (h : okDk d = true) : textDk d = textD d.net.sta d.times.length d.runs.length := by simp [textDk, h]
theorem okDk_sta {d : Dk} (h : okDk d = true) : 2 ≤ d.net.sta ∧ d.net.sta ≤ 10 := by
  unfold okDk okNt at h
  simp only [Bool.and_eq_true] at h
  exact inR_true.1 h.1.1
theorem DkR.n2eq {w : World} {B : Nat} {h : DkH} {d : Dk} (hr : DkR w B h d) : d.times.length = h.n2 := ints_len hr.times
theorem DkR.n3eq {w : World} {B : Nat} {h : DkH} {d : Dk} (hr : DkR w B h d) : d.runs.length = h.n3 := hr.runs.len

set_option maxHeartbeats 4000000 in
set_option maxRecDepth 100000 in
theorem implDeskText_any (h : DkH) (d : Dk) (m : Int) (B : Nat) (w : World) (hr : DkR w B h d) (hs : DkS h d) (hB : B ≤ w.heap.size) (hm : w.cell? ⟨1, 0, none⟩ = some (.int .i64 m)) (ht : TabP w) (hv : SynP w) :
    Calls Tryz.prog 11 #[.agg #[.int .i64 d.net.sta, .slice h.A1 h.n1 h.c1, .slice h.A2 h.n2 h.c2, .slice h.A3 h.n3 h.c3, .string d.log]] w fun e w' => e = .returned (.string (textDk d)) ∧ Below w.heap.size w w' := by
  obtain ⟨W, hW, y0, hb⟩ : ∃ W, W = w.alloc (.cells #[.int .i64 d.net.sta, .slice h.A1 h.n1 h.c1, .slice h.A2 h.n2 h.c2, .slice h.A3 h.n3 h.c3, .string d.log] 32) ∧ Blk W w.heap.size 32 #[.int .i64 d.net.sta, .slice h.A1 h.n1 h.c1, .slice h.A2 h.n2 h.c2, .slice h.A3 h.n3 h.c3, .string d.log] ∧ Below w.heap.size w W := ⟨_, rfl, Blk.new _ _ _, (Below.refl _ _).alloc (Nat.le_refl _) _⟩
  have HW := Lib.hid hW
  have HB := Lib.hid hb
  have HY := Lib.hid y0
  have HR := Lib.hid hr
  have HS := Lib.hid hs
  have HM := Lib.hid (cell_on hb hm)
  have HT := Lib.hid (tabUp ht hb)
  have HV := Lib.hid (synUp hv hb)
  clear hW hb hr hs hm ht hv
  obtain ⟨a0, a1, a2, a3, a4⟩ := cells5 y0
  go_enter Tryz.func11, Tryz.ntmps11
  go_upto_region 1 with fail
  rw [← HW.out]
  go_wp2_with fail
  refine (implValidDesk_any h d m B W (HR.out.on hB HB.out) HS.out (Nat.le_trans hB HB.out.size) HM.out HT.out HV.out).mono ?_
  rintro e w1 ⟨rfl, b1⟩
  have HB1 := Lib.hid (bnext HB.out b1 (Nat.le_refl _))
  have q0 := cell_on b1 a0
  have q2 := cell_on b1 a2
  have q3 := cell_on b1 a3
  have HT1 := Lib.hid (tabUp HT.out b1)
  clear b1 y0 a0 a1 a2 a3 a4
  rcases e1 : okDk d with _ | _
  · have HO := Lib.hid (textDk_no e1)
    go_wp2
    go_ret
    exact ⟨by rw [HO.out]; rfl, HB1.out⟩
  have HO := Lib.hid (textDk_yes e1)
  obtain ⟨h8, h9⟩ := okDk_sta e1
  have h2 := HS.out.n2
  have h3 := HS.out.n3
  have hs1 : (asBytes (itoa d.net.sta)).size ≤ 20 := by rw [asBytes_size]; exact itoa_len (by omega) (by omega)
  have hs2 : (asBytes (itoa (h.n2 : Int))).size ≤ 20 := by rw [asBytes_size]; exact itoa_len (by omega) (by omega)
  have hs3 : (asBytes (itoa (h.n3 : Int))).size ≤ 20 := by rw [asBytes_size]; exact itoa_len (by omega) (by omega)
  have n1 : ¬ (9223372036854775807 < (asBytes (itoa d.net.sta)).size + 11) := by omega
  have n2 : ¬ (9223372036854775807 < (asBytes (itoa d.net.sta)).size + 11 + (asBytes (itoa (h.n2 : Int))).size) := by omega
  have n3 : ¬ (9223372036854775807 < (asBytes (itoa d.net.sta)).size + 11 + (asBytes (itoa (h.n2 : Int))).size + 8) := by omega
  have n4 : ¬ (9223372036854775807 < (asBytes (itoa d.net.sta)).size + 11 + (asBytes (itoa (h.n2 : Int))).size + 8 + (asBytes (itoa (h.n3 : Int))).size) := by omega
  have n5 : ¬ (9223372036854775807 < (asBytes (itoa d.net.sta)).size + 11 + (asBytes (itoa (h.n2 : Int))).size + 8 + (asBytes (itoa (h.n3 : Int))).size + 5) := by omega
  go_wp2_with fail
  go_region_held3 (fun W => Below w1.heap.size w1 W ∧ W.cell? ⟨w.heap.size, 0, none⟩ = some (.int .i64 d.net.sta) ∧ W.cell? ⟨w.heap.size, 2, none⟩ = some (.slice h.A2 h.n2 h.c2) ∧ W.cell? ⟨w.heap.size, 3, none⟩ = some (.slice h.A3 h.n3 h.c3)) (first | exact ⟨(Below.refl _ _).drew, q0, q2, q3⟩ | (go_split_ands; exact ⟨bnext (by assumption) hb1 (Nat.le_refl _), cell_on hb1 (by assumption), cell_on hb1 (by assumption), cell_on hb1 (by assumption)⟩) | (go_split_ands; exact ⟨by assumption, by assumption, by assumption, by assumption⟩) | fail "keep") (first | (go_at_call 38; go_split_ands; refine (decimal_any _ _ (by omega) (by omega) (tabUp HT1.out (by assumption))).mono ?_; rintro e w2 ⟨rfl, hb1⟩) | fail "arm")
  rename_i hS
  have HF := Lib.hid (bnext HB1.out hS.1 (Nat.le_refl _))
  go_wp2
  go_ret
  exact ⟨by rw [HO.out, HR.out.n2eq, HR.out.n3eq]; rfl, HF.out⟩
end Go.Proofs.YtjalgpioklcbfaaGreatDoor
