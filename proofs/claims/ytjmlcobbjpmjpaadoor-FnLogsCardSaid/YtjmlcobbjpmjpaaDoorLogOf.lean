/- The log of a list, both sides. -/
import Derived.Test.YtjmlcobbjpmjpaaDoorLogL
import Derived.Test.YtjmlcobbjpmjpaaDoorLnS
import Derived.Test.YtjmlcobbjpmjpaaDoorEnAt
import Derived.Test.YtjmlcobbjpmjpaaDoorAccStr
import Derived.IntWalk
set_option linter.unusedVariables false
set_option linter.unusedSimpArgs false
namespace Go.Proofs.YtjmlcobbjpmjpaaDoor
open Go.RowKit Go.Lib

theorem lineB_pos (st : Int) (e : En) : 0 < (lineB st e).size := by
  rw [← data_len, lineB_data]
  simp
  omega
theorem data_push (a : List UInt8) (b : ByteArray) : asBytes (a ++ b.data.toList) = asBytes a ++ b := by
  apply bytes_ext
  rw [data_app, data_asBytes, data_asBytes]

set_option maxHeartbeats 4000000 in
set_option maxRecDepth 100000 in
theorem l27Make_any (A : Option Addr) (n c : Nat) (l : List En) (B : Nat) (w : World) (h : Reads w B 3 A n (ens l)) (hB : B ≤ w.heap.size) (hn : n ≤ 1048576) (hok : ∀ x ∈ l, okEn x = true) :
    Calls Tryd.prog 56 #[.slice A n c] w fun e w' => e = .returned (.string (logTo l n)) ∧ Below w.heap.size w w' := by
  have hl := Lib.hid (ens_len h)
  have HOK := Lib.hid hok
  have acc0 := Acc.made w 5 1
  clear hok
  go_enter Tryd.func56, Tryd.ntmps56
  go_wp2
  go_loopw [3, 4, 5] (fun o st i wr => ∃ (k g1 : Nat) (d : Nat), k ≤ n ∧ i = .int .i64 k ∧ st = .int .i64 (stampAt l k) ∧ o = .slice (some ⟨g1, 0, none⟩) (logTo l k).size d ∧ Acc w.heap.size w.heap.size 5 1 w wr (some ⟨g1, 0, none⟩) (logTo l k).size d (bytesV (logTo l k).data.toList)) (fun _ _ i _ => n - (RowKit.intOf i).toNat)
  case atStart => exact ⟨0, _, _, Nat.zero_le _, rfl, rfl, rfl, acc0⟩
  case round =>
    obtain ⟨k, g1, d, hk, rfl, rfl, rfl, hacc⟩ := hrel
    have HA := Lib.hid hacc
    have hsz := logTo_size HOK.out k
    have hbd := stampAt_bd l k
    clear acc0 hacc
    by_cases hlt : k < n
    · have hbel := HA.out.below (Nat.le_refl _) (Nat.le_refl _)
      obtain ⟨x, b, off, he, rfl, hb, c0, c1, c2⟩ := en_at (h.on hB hbel) hlt
      have hx := HOK.out x (List.mem_of_getElem? he)
      have hxg := okEn_good hx
      have hxs := okEn_small hx
      have hws := wordsB_small hx
      have HST := Lib.hid (stampAt_step he)
      have HLG := Lib.hid (logTo_step he)
      have hbd2 := stampAt_bd l (k + 1)
      have hlb := lineB_size hx hbd2.1 hbd2.2
      have HX := Lib.hid hx
      have hi0 : (0 : Int) ≤ k := by omega
      have hi1 : (k : Int) < n := by omega
      obtain ⟨sk, hsk⟩ : ∃ y, stampAt l k = y := ⟨_, rfl⟩
      obtain ⟨lg, hlg⟩ : ∃ y, logTo l k = y := ⟨_, rfl⟩
      rw [hsk] at hbd HST ⊢
      rw [hlg] at HA hsz HLG ⊢
      clear he hx hsk hlg hbel
      go_wp2_with fail
      refine (l27WordsAt_any x b (off + k * 3) _ hxg hxs c0 c1 c2).mono ?_
      rintro e w1 ⟨rfl, b1⟩
      replace c0 := cell_on b1 c0
      replace c1 := cell_on b1 c1
      replace c2 := cell_on b1 c2
      have HA1 := Lib.hid (HA.out.on b1 (Nat.le_refl _))
      clear b1
      go_wp2_with fail
      refine (l27Stamp_any sk (wordsB x) _ hbd.1 hbd.2 (by omega)).mono ?_
      rintro e w2 ⟨rfl, rfl⟩
      rw [← HST.out]
      obtain ⟨sk2, hsk2⟩ : ∃ y, stampAt l (k + 1) = y := ⟨_, rfl⟩
      rw [hsk2] at hbd2 hlb HST HLG ⊢
      have HK2 := Lib.hid hsk2
      clear hsk2
      go_wp2_with fail
      refine (l27LineAt_any sk2 x b (off + k * 3) _ HX.out hbd2.1 hbd2.2 c0 c1 c2).mono ?_
      rintro e w3 ⟨rfl, b3⟩
      have HA3 := Lib.hid (HA1.out.on b3 (Nat.le_refl _))
      clear b3 c0 c1 c2
      have hsm : lg.size + (lineB sk2 x).size < 100000000 := by omega
      go_wp2_with (at_builtin; refine wpList_accStr rfl _ _ 28 9 rfl 5 Tryd.underlying28 Tryd.underlying9 info_u8 HA3.out (Nat.le_refl _) rfl (lineB sk2 x) rfl hsm ?_; intro A2 d2 w9 hacc2; have HA9 := Lib.hid hacc2; clear hacc2)
      go_roundw
      case rel =>
        have hpos := lineB_pos sk2 x
        obtain ⟨g2, rfl⟩ : ∃ g2, A2 = some ⟨g2, 0, none⟩ := by
          rcases HA9.out.own.2 with ⟨h1, h2⟩ | ⟨g2, cap, cur, h1, _⟩
          · omega
          · injection h1 with h1; exact ⟨g2, h1⟩
        refine ⟨k + 1, g2, d2, by omega, by go_num, by rw [HK2.out], ?_, ?_⟩
        · rw [HLG.out, ByteArray.size_append]
        · rw [HLG.out, ByteArray.size_append, data_app]
          exact HA9.out
      case measure => simp [RowKit.intOf]; omega
    · obtain rfl : k = n := by omega
      obtain ⟨lg, hlg⟩ : ∃ y, logTo l k = y := ⟨_, rfl⟩
      rw [hlg] at HA hsz ⊢
      have HLG := Lib.hid hlg
      have HF := Lib.hid (HA.out.below (Nat.le_refl _) (Nat.le_refl _))
      have hkk : ¬ ((k : Int) < (k : Int)) := by omega
      obtain ⟨L, hL⟩ : ∃ L, lg.data.toList = L := ⟨_, rfl⟩
      have hLs : L.length = lg.size := by rw [← hL, data_len]
      have hcell : ∀ j (hj : j < L.length), wr.cell? ((⟨g1, 0, none⟩ : Addr).add j) = some (.int .u8 (L[j].toNat : Int)) := fun j hj => by
        have h9 := (HA.out.sl (lo := w.heap.size) (Nat.le_refl _) (Nat.le_refl _)).cellAt j (by rw [Nat.mul_one, ← hLs]; exact hj)
        rw [add_plain, Nat.zero_add, h9, hL]
        simp [bytesV, hj]
      have hcv := run_convert_bytes_back (P := Tryd.prog) wr 28 9 5 ⟨g1, 0, none⟩ d L Tryd.underlying28 Tryd.underlying5 Tryd.underlying9 hcell
      have hLb : (⟨L.toArray⟩ : ByteArray) = lg := by rw [← hL]
      rw [hLs, hLb] at hcv
      clear hcell hL hLs hLb
      go_wp2
      go_ret
      exact ⟨rfl, HF.out⟩
end Go.Proofs.YtjmlcobbjpmjpaaDoor
