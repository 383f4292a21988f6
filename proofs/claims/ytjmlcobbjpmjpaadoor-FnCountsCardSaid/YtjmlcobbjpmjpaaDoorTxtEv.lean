/- The numbers of events as text, both sides. -/
import Derived.Test.YtjmlcobbjpmjpaaDoorTab
import Derived.Test.YtjmlcobbjpmjpaaDoorEvC
import Derived.Test.YtjmlcobbjpmjpaaDoorEvB
import Derived.Deep.RegionHeld3
set_option linter.unusedVariables false
set_option linter.unusedSimpArgs false
namespace Go.Proofs.YtjmlcobbjpmjpaaDoor
open Go.RowKit Go.Lib

def textTo (b : ByteArray) (hs : List Int) : Nat → ByteArray
  | 0 => b
  | k + 1 => match hs[k]? with
    | none => textTo b hs k
    | some h => if 0 < h then textTo b hs k ++ (⟨#[32]⟩ ++ asBytes (itoa (k : Int)) ++ ⟨#[104, 58]⟩ ++ asBytes (itoa h)) else textTo b hs k
theorem textTo_yes {b : ByteArray} {hs : List Int} {k : Nat} {h : Int} (hk : hs[k]? = some h) (h0 : 0 < h) : textTo b hs (k + 1) = textTo b hs k ++ (⟨#[32]⟩ ++ asBytes (itoa (k : Int)) ++ ⟨#[104, 58]⟩ ++ asBytes (itoa h)) := by simp [textTo, hk, h0]
theorem textTo_no {b : ByteArray} {hs : List Int} {k : Nat} {h : Int} (hk : hs[k]? = some h) (h0 : ¬ 0 < h) : textTo b hs (k + 1) = textTo b hs k := by simp only [textTo, hk, h0, if_false]
theorem textTo_size {b : ByteArray} {hs : List Int} (hb : ∀ h ∈ hs, -9223372036854775808 ≤ h ∧ h ≤ 9223372036854775807) : ∀ k, k ≤ 1000 → (textTo b hs k).size ≤ b.size + 43 * k
  | 0, _ => by simp [textTo]
  | k + 1, hk => by
    have ih := textTo_size (b := b) hb k (by omega)
    simp only [textTo]
    split
    · omega
    · rename_i h he
      split
      · have h1 := itoa_len (n := (k : Int)) (by omega) (by omega)
        have h2 := hb h (List.mem_of_getElem? he)
        have h3 := itoa_len h2.1 h2.2
        simp only [ByteArray.size_append, asBytes_size]
        have e1 : (⟨#[32]⟩ : ByteArray).size = 1 := rfl
        have e2 : (⟨#[104, 58]⟩ : ByteArray).size = 2 := rfl
        omega
      · omega
theorem hoursOf_len (l : List Ev) : (hoursOf l).length = 24 := histOf_length _ _ _
theorem hoursOf_bd {l : List Ev} (h : okEv l = true) : ∀ y ∈ hoursOf l, 0 ≤ y ∧ y ≤ 200 := fun y hy => by
  have h1 := histOf_bound (·.h) 24 l y hy
  have h2 := okEv_len h
  omega
def countsB (l : List Ev) : ByteArray := if okEv l = true then textTo (asBytes (itoa (l.length : Int))) (hoursOf l) 24 else ⟨#[]⟩
theorem countsB_no {l : List Ev} (h : okEv l = false) : countsB l = ⟨#[]⟩ := by simp [countsB, h]
theorem countsB_yes {l : List Ev} (h : okEv l = true) : countsB l = textTo (asBytes (itoa (l.length : Int))) (hoursOf l) 24 := by simp only [countsB, h, if_true]

set_option maxHeartbeats 4000000 in
set_option maxRecDepth 100000 in
theorem implCountsText_any (A : Option Addr) (n c : Nat) (l : List Ev) (B : Nat) (w : World) (h : Reads w B 2 A n (evs l)) (hB : B ≤ w.heap.size) (hn : n ≤ 1048576) (ht : TabP w) :
    Calls Tryd.prog 39 #[.slice A n c] w fun e w' => e = .returned (.string (countsB l)) ∧ Below w.heap.size w w' := by
  have hl := Lib.hid (evs_len h)
  have HT := Lib.hid ht
  clear ht
  rcases h1 : okEv l with _ | _
  · have HO := Lib.hid (countsB_no h1)
    go_enter Tryd.func39, Tryd.ntmps39
    go_wp2_with fail
    refine (implValidEvents_any A n c l B _ h hB hn).mono ?_
    rintro e w1 ⟨rfl, b1⟩
    have HB := Lib.hid b1
    clear b1
    rw [h1]
    go_wp2
    go_ret
    exact ⟨by rw [HO.out]; rfl, HB.out⟩
  · have HO := Lib.hid (countsB_yes h1)
    have hhl := hoursOf_len l
    have hhb := hoursOf_bd h1
    have hin := Lib.hid (fun h hh => (hhb h hh))
    have hn1 : (n : Int) ≤ 1048576 := by omega
    have hsn := itoa_len (n := (n : Int)) (by omega) (by omega)
    have hll := Lib.hid (show (l.length : Int) = n by rw [hl.out])
    go_enter Tryd.func39, Tryd.ntmps39
    go_wp2_with fail
    refine (implValidEvents_any A n c l B _ h hB hn).mono ?_
    rintro e w1 ⟨rfl, b1⟩
    rw [h1]
    have h' := h.on hB b1
    have hz := b1.size
    have H1 := Lib.hid b1
    clear b1 h
    go_wp2_with fail
    refine (decimal_any (n : Int) _ (by omega) (by omega) (tabUp HT.out H1.out)).mono ?_
    rintro e w2 ⟨rfl, b2⟩
    have h'' := h'.on (by omega) b2
    have hz2 := b2.size
    have H2 := Lib.hid (bnext H1.out b2 (Nat.le_refl _))
    clear b2 h'
    go_wp2_with fail
    refine (byHour_any A n c B l _ h'' (by omega) h1).mono ?_
    rintro e w3 ⟨g, rfl, s3, b3⟩
    have H3 := Lib.hid (bnext H2.out b3 (Nat.le_refl _))
    clear b3 h'' hhb
    have HS3 := Lib.hid s3
    clear s3
    obtain ⟨bb, hbb⟩ : ∃ bb, asBytes (itoa (n : Int)) = bb := ⟨_, rfl⟩
    have hbs : bb.size ≤ 20 := by rw [← hbb, asBytes_size]; exact hsn
    have HBB := Lib.hid hbb
    rw [hbb]
    clear hbb hsn
    go_wp2
    go_loopw [3, 4, 5, 15] (fun s _ _ i wr => ∃ k : Nat, k ≤ 24 ∧ i = .int .i64 k ∧ s = .string (textTo bb (hoursOf l) k) ∧ Below w3.heap.size w3 wr) (fun _ _ _ i _ => 24 - (RowKit.intOf i).toNat)
    case atStart => exact ⟨0, by omega, rfl, rfl, Below.refl _ _⟩
    case round =>
      obtain ⟨k, hk, rfl, rfl, hbel⟩ := hrel
      have hts := textTo_size (b := bb) (hs := hoursOf l) (fun h hh => by have := hin.out h hh; omega) k (by omega)
      by_cases hlt : k < 24
      · obtain ⟨y, hy⟩ : ∃ y, (hoursOf l)[k]? = some y := ⟨_, List.getElem?_eq_getElem (by omega)⟩
        have hyb := hin.out y (List.mem_of_getElem? hy)
        have hcell : wr.cell? ⟨g, k, none⟩ = some (.int .i64 y) := ((HS3.out.on hbel).cellAt k (by omega)).trans (ints_get hy)
        have HY := Lib.hid (fun h0 => textTo_yes (b := bb) hy h0)
        have HN := Lib.hid (fun h0 => textTo_no (b := bb) hy h0)
        have HB := Lib.hid hbel
        clear hy hbel
        obtain ⟨t, ht⟩ : ∃ t, textTo bb (hoursOf l) k = t := ⟨_, rfl⟩
        rw [ht] at hts HY HN ⊢
        clear ht
        have hk0 : (0 : Int) ≤ k := by omega
        have hk1 : (k : Int) < 24 := by omega
        by_cases h0 : 0 < y
        · have HR := Lib.hid (HY.out h0)
          have hs1 : (asBytes (itoa (k : Int))).size ≤ 20 := by rw [asBytes_size]; exact itoa_len (by omega) (by omega)
          have hs2 : (asBytes (itoa y)).size ≤ 20 := by rw [asBytes_size]; exact itoa_len (by omega) (by omega)
          have n1 : ¬ (9223372036854775807 < 1 + (asBytes (itoa (k : Int))).size) := by omega
          have n2 : ¬ (9223372036854775807 < 1 + (asBytes (itoa (k : Int))).size + 2) := by omega
          have n3 : ¬ (9223372036854775807 < 1 + (asBytes (itoa (k : Int))).size + 2 + (asBytes (itoa y)).size) := by omega
          have n4 : ¬ (9223372036854775807 < t.size + (1 + (asBytes (itoa (k : Int))).size + 2 + (asBytes (itoa y)).size)) := by omega
          go_wp2_with fail
          refine (decimal_any (k : Int) _ (by omega) (by omega) (tabUp HT.out (bnext H3.out HB.out (Nat.le_refl _)))).mono ?_
          rintro e w5 ⟨rfl, b5⟩
          have H5 := Lib.hid (bnext HB.out b5 (Nat.le_refl _))
          clear b5 hcell
          go_wp2_with fail
          refine (decimal_any y _ (by omega) (by omega) (tabUp HT.out (bnext H3.out H5.out (Nat.le_refl _)))).mono ?_
          rintro e w6 ⟨rfl, b6⟩
          have HF := Lib.hid (bnext H5.out b6 (Nat.le_refl _))
          clear b6
          go_wp2
          go_roundw
          case rel => exact ⟨k + 1, by omega, by go_num, by rw [HR.out], HF.out⟩
          case measure => simp [RowKit.intOf]; omega
        · have HR := Lib.hid (HN.out h0)
          have h01 : decide (0 < y) = false := decide_eq_false h0
          go_wp2
          go_roundw
          case rel => exact ⟨k + 1, by omega, by go_num, by rw [HR.out], HB.out⟩
          case measure => simp [RowKit.intOf]; omega
      · obtain rfl : k = 24 := by omega
        have HE := Lib.hid (show countsB l = textTo bb (hoursOf l) 24 by rw [HO.out, hll.out, HBB.out])
        have HF := Lib.hid (bnext H3.out hbel (Nat.le_refl _))
        clear hbel
        go_wp2
        go_ret
        exact ⟨by rw [HE.out]; rfl, HF.out⟩

set_option maxHeartbeats 4000000 in
set_option maxRecDepth 100000 in
theorem specCountsText_any (A : Option Addr) (n c : Nat) (l : List Ev) (B : Nat) (w : World) (h : Reads w B 2 A n (evs l)) (hB : B ≤ w.heap.size) (hn : n ≤ 1048576) :
    Calls Tryd.prog 40 #[.slice A n c] w fun e w' => e = .returned (.string (countsB l)) ∧ Below w.heap.size w w' := by
  have hl := Lib.hid (evs_len h)
  rcases h1 : okEv l with _ | _
  · have HO := Lib.hid (countsB_no h1)
    go_enter Tryd.func40, Tryd.ntmps40
    go_wp2_with fail
    refine (l26Ok_any A n c B l _ h hn).mono ?_
    rintro e w1 ⟨rfl, rfl⟩
    rw [h1]
    go_wp2
    go_ret
    exact ⟨by rw [HO.out]; rfl, Below.refl _ _⟩
  · have HO := Lib.hid (countsB_yes h1)
    have hhl := hoursOf_len l
    have hhb := hoursOf_bd h1
    have hin := Lib.hid (fun h hh => (hhb h hh))
    have hn1 : (n : Int) ≤ 1048576 := by omega
    have hsn := itoa_len (n := (n : Int)) (by omega) (by omega)
    have hll := Lib.hid (show (l.length : Int) = n by rw [hl.out])
    go_enter Tryd.func40, Tryd.ntmps40
    go_wp2_with fail
    refine (l26Ok_any A n c B l _ h hn).mono ?_
    rintro e w1 ⟨rfl, rfl⟩
    rw [h1]
    go_wp2_with fail
    refine (l26Hours_any A n c B l _ h hB h1).mono ?_
    rintro e w2 ⟨g, rfl, s2, b2⟩
    have H2 := Lib.hid b2
    have zb := b2.size
    clear b2 h hhb
    go_wp2_with fail
    refine (l01Dec_any (n : Int) _ (by omega) (by omega)).mono ?_
    rintro e w3 ⟨rfl, b3⟩
    have s3 := s2.on b3
    have H3 := Lib.hid (bnext H2.out b3 (Nat.le_refl _))
    clear b3 s2
    have HS3 := Lib.hid s3
    clear s3
    obtain ⟨bb, hbb⟩ : ∃ bb, asBytes (itoa (n : Int)) = bb := ⟨_, rfl⟩
    have hbs : bb.size ≤ 20 := by rw [← hbb, asBytes_size]; exact hsn
    have HBB := Lib.hid hbb
    rw [hbb]
    clear hbb hsn
    go_wp2
    go_loopw [4, 5] (fun s i wr => ∃ k : Nat, k ≤ 24 ∧ i = .int .i64 k ∧ s = .string (textTo bb (hoursOf l) k) ∧ Below w3.heap.size w3 wr) (fun _ i _ => 24 - (RowKit.intOf i).toNat)
    case atStart => exact ⟨0, by omega, rfl, rfl, Below.refl _ _⟩
    case round =>
      obtain ⟨k, hk, rfl, rfl, hbel⟩ := hrel
      have hts := textTo_size (b := bb) (hs := hoursOf l) (fun h hh => by have := hin.out h hh; omega) k (by omega)
      by_cases hlt : k < 24
      · obtain ⟨y, hy⟩ : ∃ y, (hoursOf l)[k]? = some y := ⟨_, List.getElem?_eq_getElem (by omega)⟩
        have hyb := hin.out y (List.mem_of_getElem? hy)
        have hcell : wr.cell? ⟨g, k, none⟩ = some (.int .i64 y) := ((HS3.out.on hbel).cellAt k (by omega)).trans (ints_get hy)
        have HY := Lib.hid (fun h0 => textTo_yes (b := bb) hy h0)
        have HN := Lib.hid (fun h0 => textTo_no (b := bb) hy h0)
        have HB := Lib.hid hbel
        clear hy hbel
        obtain ⟨t, ht⟩ : ∃ t, textTo bb (hoursOf l) k = t := ⟨_, rfl⟩
        rw [ht] at hts HY HN ⊢
        clear ht
        have hk0 : (0 : Int) ≤ k := by omega
        have hk1 : (k : Int) < 24 := by omega
        by_cases h0 : 0 < y
        · have HR := Lib.hid (HY.out h0)
          have hs1 : (asBytes (itoa (k : Int))).size ≤ 20 := by rw [asBytes_size]; exact itoa_len (by omega) (by omega)
          have hs2 : (asBytes (itoa y)).size ≤ 20 := by rw [asBytes_size]; exact itoa_len (by omega) (by omega)
          have n1 : ¬ (9223372036854775807 < 1 + (asBytes (itoa (k : Int))).size) := by omega
          have n2 : ¬ (9223372036854775807 < 1 + (asBytes (itoa (k : Int))).size + 2) := by omega
          have n3 : ¬ (9223372036854775807 < 1 + (asBytes (itoa (k : Int))).size + 2 + (asBytes (itoa y)).size) := by omega
          have n4 : ¬ (9223372036854775807 < t.size + (1 + (asBytes (itoa (k : Int))).size + 2 + (asBytes (itoa y)).size)) := by omega
          go_wp2_with fail
          go_region_held3 (fun W => Below wr.heap.size wr W ∧ W.cell? ⟨g, k, none⟩ = some (.int .i64 y)) (first | exact ⟨(Below.refl _ _).drew, hcell⟩ | (go_split_ands; exact ⟨bnext (by assumption) hb1 (Nat.le_refl _), cell_on hb1 (by assumption)⟩) | fail "keep") (first | (go_at_call 78; refine (l01Dec_any _ _ (by omega) (by omega)).mono ?_; rintro e w5 ⟨rfl, hb1⟩) | fail "arm")
          rename_i hS
          have HF := Lib.hid (bnext HB.out hS.1 (Nat.le_refl _))
          clear hS
          go_wp2
          go_roundw
          case rel => exact ⟨k + 1, by omega, by go_num, by rw [HR.out], HF.out⟩
          case measure => simp [RowKit.intOf]; omega
        · have HR := Lib.hid (HN.out h0)
          have h01 : decide (0 < y) = false := decide_eq_false h0
          go_wp2
          go_roundw
          case rel => exact ⟨k + 1, by omega, by go_num, by rw [HR.out], HB.out⟩
          case measure => simp [RowKit.intOf]; omega
      · obtain rfl : k = 24 := by omega
        have HE := Lib.hid (show countsB l = textTo bb (hoursOf l) 24 by rw [HO.out, hll.out, HBB.out])
        have HF := Lib.hid (bnext H3.out hbel (Nat.le_refl _))
        clear hbel
        go_wp2
        go_ret
        exact ⟨by rw [HE.out]; rfl, HF.out⟩

end Go.Proofs.YtjmlcobbjpmjpaaDoor
