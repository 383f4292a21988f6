/- All tubes tested; the net. -/
import Derived.Test.YtgcepomehgedfaaDoorVdT
import Derived.Deep.QuietTactic
set_option linter.unusedVariables false
namespace Go.Proofs.YtgcepomehgedfaaDoor
open Go.RowKit

theorem indexFuncTb_any (A : Option Addr) (n c B : Nat) (l : List Tb) (s : Int) (P : Option Addr) (m d g : Nat) (w : World) (h : Reads w B 3 A n (tbs l)) (hB : B ≤ w.heap.size) (hn : n ≤ 1048576) (h0 : 2 ≤ s) (h1 : s ≤ 10) (k0 : w.cell? ⟨g, 0, none⟩ = some (.int .i64 s)) (k1 : w.cell? ⟨g, 1, none⟩ = some (.slice P m d)) :
    Calls Tryd.prog 68 #[.slice A n c, .func (.func 49) #[] #[.pointer (some ⟨g, 0, none⟩)]] w
      fun e w' => e = .returned (.int .i64 (idxI (fun x => !okTb s x) l)) ∧ Below w.heap.size w w' := by
  have hl := Lib.hid (tbs_len h)
  go_enter Tryd.func68, Tryd.ntmps68
  go_wp2
  go_loopw [8] (fun i wr => ∃ k : Nat, k ≤ n ∧ i = .int .i64 k ∧ AllTo (okTb s) l k ∧ Below w.heap.size w wr) (fun i _ => n - (intOf i).toNat)
  case atStart => exact ⟨0, Nat.zero_le _, rfl, AllTo.zero _ _, Below.refl _ _⟩
  case round =>
    obtain ⟨k, hk, rfl, hall, hbel⟩ := hrel
    have HA := Lib.hid hall
    have HB := Lib.hid hbel
    have z0 := cell_on hbel k0
    have z1 := cell_on hbel k1
    clear hall
    by_cases hlt : k < n
    · obtain ⟨x, b, off, he, rfl, hb, c0, c1, c2⟩ := tb_at (h.on hB hbel) hlt
      have HE := Lib.hid he
      clear he hbel h
      go_wp2_with fail
      refine (validNet1_any s x P m d g _ h0 h1 z0 z1).mono ?_
      rintro e w1 ⟨rfl, b1⟩
      have HF := Lib.hid (bnext HB.out b1 (Nat.le_refl _))
      clear b1 c0 c1 c2 z0 z1
      rcases ho : okTb s x with _ | _
      · have HO := Lib.hid (show idxI (fun x => !okTb s x) l = k from idxI_found HE.out (by simp [ho]) (HA.out.imp fun x hx => by simp [hx]))
        go_wp2
        go_ret
        exact ⟨ret_int HO.out.symm, HF.out⟩
      · have HO := Lib.hid ho
        go_wp2
        go_roundw
        case rel => exact ⟨k + 1, by omega, by go_num, HA.out.step HE.out HO.out, HF.out⟩
        case measure => simp [intOf]; omega
    · obtain rfl : k = n := by omega
      have HO := Lib.hid (show idxI (fun x => !okTb s x) l = -1 from idxI_none (HA.out.imp fun x hx => by simp [hx]) hl.out)
      go_wp2
      go_ret
      exact ⟨ret_int HO.out.symm, HB.out⟩
theorem containsFuncTb_any (A : Option Addr) (n c B : Nat) (l : List Tb) (s : Int) (P : Option Addr) (m d g : Nat) (w : World) (h : Reads w B 3 A n (tbs l)) (hB : B ≤ w.heap.size) (hn : n ≤ 1048576) (h0 : 2 ≤ s) (h1 : s ≤ 10) (k0 : w.cell? ⟨g, 0, none⟩ = some (.int .i64 s)) (k1 : w.cell? ⟨g, 1, none⟩ = some (.slice P m d)) :
    Calls Tryd.prog 48 #[.slice A n c, .func (.func 49) #[] #[.pointer (some ⟨g, 0, none⟩)]] w
      fun e w' => e = .returned (.bool (!l.all (okTb s))) ∧ Below w.heap.size w w' := by
  have HO := Lib.hid (show decide (0 ≤ idxI (fun x => !okTb s x) l) = !l.all (okTb s) from by rw [idxI_nonneg]; simp [List.any_eq_not_all_not])
  go_enter Tryd.func48, Tryd.ntmps48
  go_wp2_with fail
  refine (indexFuncTb_any A n c B l s P m d g w h hB hn h0 h1 k0 k1).mono ?_
  rintro e w1 ⟨rfl, b1⟩
  go_wp2
  go_ret
  exact ⟨ret_bool HO.out, b1⟩

def okNt (x : Nt) : Bool := inR x.sta 2 10 && (decide (x.tubes.length ≤ 24) && x.tubes.all (okTb x.sta))
theorem implValidNet_any (A : Option Addr) (n c B : Nat) (x : Nt) (w : World) (h : Reads w B 3 A n (tbs x.tubes)) (hB : B ≤ w.heap.size) (hn : n ≤ 1048576) :
    Calls Tryd.prog 35 #[.agg #[.int .i64 x.sta, .slice A n c]] w fun e w' => e = .returned (.bool (okNt x)) ∧ Below w.heap.size w w' := by
  have hl := tbs_len h
  obtain ⟨W, hW, k0, hb⟩ : ∃ W, W = w.alloc (.cells #[.int .i64 x.sta, .slice A n c] 24) ∧ Blk W w.heap.size 24 #[.int .i64 x.sta, .slice A n c] ∧ Below w.heap.size w W := ⟨_, rfl, Blk.new _ _ _, (Below.refl _ _).alloc (Nat.le_refl _) _⟩
  have HW := Lib.hid hW
  have HB := Lib.hid hb
  have HR := Lib.hid (h.on hB hb)
  have c0 := k0.cellAt 0 (by simp)
  have c1 := k0.cellAt 1 (by simp)
  simp only [List.getElem_toArray, List.getElem_cons_zero, List.getElem_cons_succ] at c0 c1
  have HL := Lib.hid hl
  clear hW hb k0 h hl
  go_enter Tryd.func35, Tryd.ntmps35
  go_upto_region 1 with fail
  rw [← HW.out]
  go_wp2_with fail
  refine (within_any _ _ _ _).mono ?_
  rintro e w1 ⟨rfl, rfl⟩
  rcases e1 : inR x.sta 2 10 with _ | _
  · have HO := Lib.hid (show okNt x = false by simp [okNt, e1])
    go_wp2
    go_ret
    exact ⟨ret_bool HO.out.symm, HB.out⟩
  obtain ⟨h0, h1⟩ := inR_true.1 e1
  by_cases h24 : n ≤ 24
  · have HO := Lib.hid (show okNt x = x.tubes.all (okTb x.sta) by simp [okNt, e1, HL.out, h24])
    go_wp2_with fail
    refine (containsFuncTb_any A n c B x.tubes x.sta A n c w.heap.size W HR.out (Nat.le_trans hB HB.out.size) hn h0 h1 c0 c1).mono ?_
    rintro e w2 ⟨rfl, b2⟩
    go_wp2
    go_ret
    exact ⟨ret_bool (by rw [HO.out]; try simp), bnext HB.out b2 (Nat.le_refl _)⟩
  · have HO := Lib.hid (show okNt x = false by simp [okNt, e1, HL.out, h24])
    go_wp2
    go_ret
    exact ⟨ret_bool HO.out.symm, HB.out⟩
end Go.Proofs.YtgcepomehgedfaaDoor
