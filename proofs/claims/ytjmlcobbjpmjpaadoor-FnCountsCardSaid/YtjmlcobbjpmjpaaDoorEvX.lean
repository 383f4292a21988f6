/- Events: the counts by stations and hours, in the reference and in the program. -/
import Derived.Test.YtjmlcobbjpmjpaaDoorEvB
import Derived.Test.YtjmlcobbjpmjpaaDoorMat
import Derived.Test.YtjmlcobbjpmjpaaDoorSrcP
import Derived.BigRegion
set_option linter.unusedVariables false
set_option linter.unusedSimpArgs false
namespace Go.Proofs.YtjmlcobbjpmjpaaDoor
open Go.RowKit

theorem info_rows : (Tryd.prog.info? 36).map (fun i => (i.zero, i.size, i.bytes)) = some (some (.slice none 0 0), 1, 24) := by kernel_rfl
/-- One row more. -/
theorem Sq.grow {wr w1 : World} {lo m k d d2 : Nat} {t tt : TypeId} {A A2 : Option Addr} {gs : List Nat} {R : Nat → List Int} {xs : List Int} (h : Sq wr lo wr.heap.size m t tt A k d gs R) (hlo : lo ≤ wr.heap.size) (hR : R k = xs) (hm : xs.length = m)
    (h1 : Sl w1 lo w1.heap.size tt 1 A2 (k + 1) d2 (hdrs m gs ++ [.slice (some ⟨wr.heap.size, 0, none⟩) m m])) (hz : (wr.alloc (.cells (ints xs).toArray t)).heap.size + 1 ≤ w1.heap.size)
    (hf : ∀ g, g < (wr.alloc (.cells (ints xs).toArray t)).heap.size → (∀ ad, A = some ad → ad.block ≠ g) → w1.heap[g]? = (wr.alloc (.cells (ints xs).toArray t)).heap[g]?)
    (hn : ∀ g, g < (wr.alloc (.cells (ints xs).toArray t)).heap.size → (∀ ad, A = some ad → ad.block ≠ g) → ∀ ad, A2 = some ad → ad.block ≠ g) : Sq w1 lo w1.heap.size m t tt A2 (k + 1) d2 (gs ++ [wr.heap.size]) R := by
  have hlen := h.len
  have hsz : (wr.alloc (.cells (ints xs).toArray t)).heap.size = wr.heap.size + 1 := by simp
  have hA : ∀ ad, A = some ad → ad.block < wr.heap.size := fun ad had => h.1.2 ad had
  have hne : ∀ g, g ∈ gs → ∀ ad, A = some ad → ad.block ≠ g := fun g hg ad had e => h.2.2 ad had (e ▸ hg)
  have hnw : ∀ ad, A = some ad → ad.block ≠ wr.heap.size := fun ad had => by have := hA ad had; omega
  have hmat : Mat w1 lo w1.heap.size m t gs R := (h.2.1.keep fun g hg => by
    have := h.2.1.mem hg
    rw [hf g (by omega) (hne g hg), Below.heap_alloc wr _ g this.2.2]).wide (Nat.le_refl _) (by omega)
  refine ⟨?_, hmat.snoc ?_ hlo (by omega) ?_ ?_, fun ad had => ?_⟩
  · rw [hdrs, List.map_append]; exact h1
  · intro hg; have := h.2.1.mem hg; omega
  · rw [hlen, hR]; exact hm
  · rw [hlen, hR]
    exact (hf wr.heap.size (by omega) hnw).trans (Blk.new wr t _)
  · intro hg
    rcases List.mem_append.1 hg with hg | hg
    · have := h.2.1.mem hg
      exact hn _ (by omega) (hne _ hg) ad had rfl
    · rw [List.mem_singleton] at hg
      exact hn wr.heap.size (by omega) hnw ad had hg

theorem Sq.same {w w' : World} {lo hi m n c : Nat} {t tt : TypeId} {A : Option Addr} {gs : List Nat} {R : Nat → List Int} (h : Sq w lo hi m t tt A n c gs R) (hk : ∀ g : Nat, w'.heap[g]? = w.heap[g]?) : Sq w' lo hi m t tt A n c gs R :=
  ⟨h.1.keep fun b _ _ _ => hk b, h.2.1.keep fun g _ => hk g, h.2.2⟩
def crossC (l : List Ev) : Int := if okEv l then 0 else 1
def crossN (l : List Ev) : Nat := if okEv l then 10 else 0
theorem cross_ok {l : List Ev} (h : okEv l = true) : crossC l = 0 ∧ crossN l = 10 := by simp [crossC, crossN, h]
theorem cross_bad {l : List Ev} (h : okEv l = false) : crossC l = 1 ∧ crossN l = 0 := by simp [crossC, crossN, h]
/-- What the counts by both leave. -/
def CrossOut (l : List Ev) (w : World) (e : Ending) (w' : World) : Prop :=
  ∃ (A : Option Addr) (d : Nat) (gs : List Nat), e = .returned (.tuple #[.slice A (crossN l) d, .int .i64 (crossC l)]) ∧ Sq w' w.heap.size w'.heap.size 24 2 36 A (crossN l) d gs (crossRow l) ∧ Below w.heap.size w w'
theorem CrossOut.bad {l : List Ev} {w w' : World} {e : Ending} (h : okEv l = false) (he : e = .returned (.tuple #[.slice none 0 0, .int .i64 1])) (hb : Below w.heap.size w w') : CrossOut l w e w' := by
  obtain ⟨h1, h2⟩ := cross_bad h
  unfold CrossOut
  rw [h1, h2]
  exact ⟨none, 0, [], he, ⟨Sl.nil _ _ _ _ _, Mat.nil _ _ _ _ _ _, fun ad had => by cases had⟩, hb⟩
theorem CrossOut.good {l : List Ev} {w w' : World} {e : Ending} {A : Option Addr} {d : Nat} {gs : List Nat} {hi : Nat} (h : okEv l = true) (he : e = .returned (.tuple #[.slice A 10 d, .int .i64 0])) (hs : Sq w' w.heap.size hi 24 2 36 A 10 d gs (crossRow l)) (hh : hi ≤ w'.heap.size) (hb : Below w.heap.size w w') : CrossOut l w e w' := by
  obtain ⟨h1, h2⟩ := cross_ok h
  unfold CrossOut
  rw [h1, h2]
  exact ⟨A, d, gs, he, hs.wide (Nat.le_refl _) hh, hb⟩

set_option maxHeartbeats 4000000 in
set_option maxRecDepth 100000 in
theorem specCrossCounts_any (A : Option Addr) (n c : Nat) (l : List Ev) (B : Nat) (w : World) (h : Reads w B 2 A n (evs l)) (hB : B ≤ w.heap.size) (hn : n ≤ 1048576) :
    Calls Tryd.prog 35 #[.slice A n c] w fun e w' => CrossOut l w e w' := by
  have hl := Lib.hid (evs_len h)
  by_cases hok : okEv l = true
  · have HO := Lib.hid hok
    have hn2 : n ≤ 200 := by have := okEv_len hok; have := hl.out; omega
    have HSL0 := Lib.hid (Sl.made w 36 1)
    clear hok
    go_enter Tryd.func35, Tryd.ntmps35
    go_wp2_with fail
    refine (l26Ok_any _ _ _ _ _ _ h hn).mono ?_
    rw [HO.out]
    rintro e w' ⟨rfl, rfl⟩
    go_wp2
    go_loopw [4, 5] (fun o i wr => ∃ (k : Nat) (A' : Option Addr) (d : Nat) (gs : List Nat), k ≤ 10 ∧ i = .int .i64 (k : Int) ∧ o = .slice A' k d ∧ Sq wr w.heap.size wr.heap.size 24 2 36 A' k d gs zerR ∧ Below w.heap.size w wr) (fun _ i _ => 10 - (intOf i).toNat)
    case atStart => exact ⟨0, _, 0, [], Nat.zero_le _, rfl, rfl, ⟨HSL0.out.wide (Nat.le_refl _) (by simp), Mat.nil _ _ _ _ _ _, fun ad had => by simp⟩, (Below.refl _ _).alloc (Nat.le_refl _) _⟩
    case round =>
      obtain ⟨k, A', d, gs, hk, rfl, rfl, hsq, hbel⟩ := hrel
      have HSQ := Lib.hid hsq
      have HBl := Lib.hid hbel
      have zr := hbel.size
      clear hsq hbel
      by_cases hlt : k < 10
      · have hmk := make24
        have HSL := Lib.hid (HSQ.out.1.up (.cells (ints (zer 24)).toArray 2))
        go_wp2_with (at_builtin; clear hmk; refine wpList_oneF rfl _ _ 55 rfl 36 _ 1 24 Tryd.underlying55 info_rows rfl (by decide) (by decide) HSL.out (by simp; omega) rfl [.slice (some ⟨wr.heap.size, 0, none⟩) 24 24] _ (by simp) rfl rfl (fun u hu => by simp at hu; subst hu; rfl) (by omega) ?_; intro A7 d7 w7 sl7 b7 z7 f7 g7; have HSL7 := Lib.hid sl7; have HB7 := Lib.hid b7; have HF7 := Lib.hid f7; have HG7 := Lib.hid g7; clear sl7 b7 f7 g7)
        go_roundw
        case rel => exact ⟨k + 1, A7, d7, gs ++ [wr.heap.size], by omega, by go_num, rfl, HSQ.out.grow zr rfl (zer_length 24) HSL7.out z7 HF7.out HG7.out, (HBl.out.alloc (by omega) _).trans HB7.out⟩
        case measure => simp [intOf]; omega
      · obtain rfl : k = 10 := by omega
        have hsq2 : Sq wr w.heap.size wr.heap.size 24 2 36 A' 10 d gs (crossRow (l.take 0)) := HSQ.out
        clear HSQ HSL0
        go_wp2
        rename World => wo
        have zo : wo.heap.size ≤ wo.heap.size := Nat.le_refl _
        go_loopw [6] (fun i wr => ∃ k : Nat, k ≤ n ∧ i = .int .i64 (k : Int) ∧ Sq wr w.heap.size wo.heap.size 24 2 36 A' 10 d gs (crossRow (l.take k)) ∧ Below w.heap.size w wr ∧ wo.heap.size ≤ wr.heap.size) (fun i _ => n - (intOf i).toNat)
        case atStart => exact ⟨0, Nat.zero_le _, rfl, hsq2, HBl.out, Nat.le_refl _⟩
        case round =>
          obtain ⟨k, hk, rfl, hsq, hbel, hzo⟩ := hrel
          have HSQ := Lib.hid hsq
          have HBr := Lib.hid hbel
          clear hsq hbel hsq2
          by_cases hlt : k < n
          · obtain ⟨⟨s, hh⟩, b, off, he, rfl, hb, c0, c1⟩ := ev_at (h.on hB HBr.out) hlt
            have hbs := okE_s (okEv_all HO.out he)
            have hbh := okE_h (okEv_all HO.out he)
            simp only at c0 c1 hbs hbh
            obtain ⟨x, rfl⟩ := Int.eq_ofNat_of_zero_le hbs.1
            obtain ⟨y, rfl⟩ := Int.eq_ofNat_of_zero_le hbh.1
            have hx : x < 10 := by omega
            have hy : y < 24 := by omega
            obtain ⟨go, gr, rfl, hgr, c2, hg1, hg2, hg3, hg4⟩ := HSQ.out.head hx
            obtain ⟨_, _, _, hblk⟩ := HSQ.out.2.1.row x gr hgr
            have hrl := crossRow_len (l.take k) x
            have hv : (crossRow (l.take k) x)[y]? = some ((crossRow (l.take k) x)[y]'(by omega)) := List.getElem?_eq_getElem (by omega)
            have hvb := crossRow_bd (l.take k) x _ (List.mem_of_getElem? hv)
            have hkl : (l.take k).length ≤ k := List.length_take_le _ _
            have c3 := ints_cell hblk hv
            have f3 := hblk.frozen y
            have HST := Lib.hid (crossRow_step he x rfl y rfl hv)
            have HGR := Lib.hid hgr
            generalize (crossRow (l.take k) x)[y]'(by omega) = v at *
            clear hblk hrl hv hgr he hbs hbh
            go_wp2_with fail
            go_region
            go_wp2
            go_roundw
            case rel => exact ⟨k + 1, by omega, by go_num, (HSQ.out.set_ HGR.out HST.out.1 HST.out.2).same fun _ => rfl, (by have H := HBr.out.setCell (p := ⟨gr, y, none⟩) hg1 (.int .i64 (v + 1)); exact ⟨H.os, H.tape, H.output, H.size, H.block⟩), by simpa [World.setCell] using hzo⟩
            case measure => simp [intOf]; omega
          · obtain rfl : k = n := by omega
            go_wp2
            go_ret2
            have hq := HSQ.out
            rw [List.take_of_length_le (by have := hl.out; omega)] at hq
            exact CrossOut.good HO.out rfl hq hzo HBr.out
  · have hok : okEv l = false := by simpa using hok
    have HO := Lib.hid hok
    clear hok
    go_enter Tryd.func35, Tryd.ntmps35
    go_wp2_with fail
    refine (l26Ok_any _ _ _ _ _ _ h hn).mono ?_
    rw [HO.out]
    rintro e w' ⟨rfl, rfl⟩
    go_wp2
    go_ret2
    exact CrossOut.bad HO.out rfl (Below.refl _ _)
set_option maxHeartbeats 4000000 in
set_option maxRecDepth 100000 in
theorem implCrossCounts_any (A : Option Addr) (n c : Nat) (l : List Ev) (B : Nat) (w : World) (h : Reads w B 2 A n (evs l)) (hB : B ≤ w.heap.size) (hn : n ≤ 1048576) :
    Calls Tryd.prog 34 #[.slice A n c] w fun e w' => CrossOut l w e w' := by
  have hl := Lib.hid (evs_len h)
  by_cases hok : okEv l = true
  · have HO := Lib.hid hok
    have hn2 : n ≤ 200 := by have := okEv_len hok; have := hl.out; omega
    have HSL0 := Lib.hid (fun w0 : World => Sl.made w0 36 1)
    clear hok
    go_enter Tryd.func34, Tryd.ntmps34
    go_wp2_with fail
    refine (implValidEvents_any _ _ _ _ _ _ h hB hn).mono ?_
    rw [HO.out]
    rintro e w0 ⟨rfl, b0⟩
    have z0 := b0.size
    have HB0 := Lib.hid b0
    clear b0
    go_wp2
    go_loopw [4, 11] (fun o i wr => ∃ (k : Nat) (A' : Option Addr) (d : Nat) (gs : List Nat), k ≤ 10 ∧ i = .int .i64 (k : Int) ∧ o = .slice A' k d ∧ Sq wr w.heap.size wr.heap.size 24 2 36 A' k d gs zerR ∧ Below w.heap.size w wr) (fun _ i _ => 10 - (intOf i).toNat)
    case atStart => exact ⟨0, _, 0, [], Nat.zero_le _, rfl, rfl, ⟨(HSL0.out w0).wide (by omega) (by simp), Mat.nil _ _ _ _ _ _, fun ad had => by simp⟩, HB0.out.alloc (by omega) _⟩
    case round =>
      obtain ⟨k, A', d, gs, hk, rfl, rfl, hsq, hbel⟩ := hrel
      have HSQ := Lib.hid hsq
      have HBl := Lib.hid hbel
      have zr := hbel.size
      clear hsq hbel
      by_cases hlt : k < 10
      · have hmk := make24
        have HSL := Lib.hid (HSQ.out.1.up (.cells (ints (zer 24)).toArray 2))
        go_wp2_with (at_builtin; clear hmk; refine wpList_oneF rfl _ _ 55 rfl 36 _ 1 24 Tryd.underlying55 info_rows rfl (by decide) (by decide) HSL.out (by simp; omega) rfl [.slice (some ⟨wr.heap.size, 0, none⟩) 24 24] _ (by simp) rfl rfl (fun u hu => by simp at hu; subst hu; rfl) (by omega) ?_; intro A7 d7 w7 sl7 b7 z7 f7 g7; have HSL7 := Lib.hid sl7; have HB7 := Lib.hid b7; have HF7 := Lib.hid f7; have HG7 := Lib.hid g7; clear sl7 b7 f7 g7)
        go_roundw
        case rel => exact ⟨k + 1, A7, d7, gs ++ [wr.heap.size], by omega, by go_num, rfl, HSQ.out.grow zr rfl (zer_length 24) HSL7.out z7 HF7.out HG7.out, (HBl.out.alloc (by omega) _).trans HB7.out⟩
        case measure => simp [intOf]; omega
      · obtain rfl : k = 10 := by omega
        have hsq2 : Sq wr w.heap.size wr.heap.size 24 2 36 A' 10 d gs (crossRow (l.take 0)) := HSQ.out
        clear HSQ HSL0
        go_wp2
        rename World => wo
        have zo : wo.heap.size ≤ wo.heap.size := Nat.le_refl _
        go_loopw [20] (fun i wr => ∃ k : Nat, k ≤ n ∧ i = .int .i64 (k : Int) ∧ Sq wr w.heap.size wo.heap.size 24 2 36 A' 10 d gs (crossRow (l.take k)) ∧ Below w.heap.size w wr ∧ wo.heap.size ≤ wr.heap.size) (fun i _ => n - (intOf i).toNat)
        case atStart => exact ⟨0, Nat.zero_le _, rfl, hsq2, HBl.out, Nat.le_refl _⟩
        case round =>
          obtain ⟨k, hk, rfl, hsq, hbel, hzo⟩ := hrel
          have HSQ := Lib.hid hsq
          have HBr := Lib.hid hbel
          clear hsq hbel hsq2
          by_cases hlt : k < n
          · obtain ⟨⟨s, hh⟩, b, off, he, rfl, hb, c0, c1⟩ := ev_at (h.on hB HBr.out) hlt
            have hbs := okE_s (okEv_all HO.out he)
            have hbh := okE_h (okEv_all HO.out he)
            simp only at c0 c1 hbs hbh
            obtain ⟨x, rfl⟩ := Int.eq_ofNat_of_zero_le hbs.1
            obtain ⟨y, rfl⟩ := Int.eq_ofNat_of_zero_le hbh.1
            have hx : x < 10 := by omega
            have hy : y < 24 := by omega
            obtain ⟨go, gr, rfl, hgr, c2, hg1, hg2, hg3, hg4⟩ := HSQ.out.head hx
            obtain ⟨_, _, _, hblk⟩ := HSQ.out.2.1.row x gr hgr
            have hrl := crossRow_len (l.take k) x
            have hv : (crossRow (l.take k) x)[y]? = some ((crossRow (l.take k) x)[y]'(by omega)) := List.getElem?_eq_getElem (by omega)
            have hvb := crossRow_bd (l.take k) x _ (List.mem_of_getElem? hv)
            have hkl : (l.take k).length ≤ k := List.length_take_le _ _
            have c3 := ints_cell hblk hv
            have f3 := hblk.frozen y
            have HST := Lib.hid (crossRow_step he x rfl y rfl hv)
            have HGR := Lib.hid hgr
            generalize (crossRow (l.take k) x)[y]'(by omega) = v at *
            clear hblk hrl hv hgr he hbs hbh
            obtain ⟨wv, hwv⟩ : ∃ z, wr.alloc (.cells #[.int .i64 (x : Int), .int .i64 (y : Int)] 101) = z := ⟨_, rfl⟩
            have bv : Below wr.heap.size wr wv := by rw [← hwv]; exact (Below.refl _ _).alloc (Nat.le_refl _) _
            have yv : Blk wv wr.heap.size 101 #[.int .i64 (x : Int), .int .i64 (y : Int)] := by rw [← hwv]; exact Blk.new _ _ _
            have v0 := yv.cellAt 0 (by simp)
            have v1 := yv.cellAt 1 (by simp)
            simp only [List.getElem_toArray, List.getElem_cons_zero, List.getElem_cons_succ] at v0 v1
            have c2v := cell_on bv c2
            have c3v := cell_on bv c3
            have f3v : wv.frozen? ⟨gr, y, none⟩ = false := (World.frozen?_of_block (bv.block gr hg3)).trans f3
            have HSQv := Lib.hid (HSQ.out.on bv)
            have HBv := Lib.hid (bnext HBr.out bv (by have := HBr.out.size; omega))
            have zv := bv.size
            go_wp2_with fail
            clear hwv bv yv c2 c3 f3
            go_region
            go_wp2
            go_roundw
            case rel => exact ⟨k + 1, by omega, by go_num, (HSQv.out.set_ HGR.out HST.out.1 HST.out.2).same fun _ => rfl, (by have H := HBv.out.setCell (p := ⟨gr, y, none⟩) hg1 (.int .i64 (v + 1)); exact ⟨H.os, H.tape, H.output, H.size, H.block⟩), by have h9 := Nat.le_trans hzo zv; simpa [World.setCell] using h9⟩
            case measure => simp [intOf]; omega
          · obtain rfl : k = n := by omega
            go_wp2
            go_ret2
            have hq := HSQ.out
            rw [List.take_of_length_le (by have := hl.out; omega)] at hq
            exact CrossOut.good HO.out rfl hq hzo HBr.out
  · have hok : okEv l = false := by simpa using hok
    have HO := Lib.hid hok
    clear hok
    go_enter Tryd.func34, Tryd.ntmps34
    go_wp2_with fail
    refine (implValidEvents_any _ _ _ _ _ _ h hB hn).mono ?_
    rw [HO.out]
    rintro e w0 ⟨rfl, b0⟩
    have HB0 := Lib.hid b0
    clear b0
    go_wp2
    go_ret2
    exact CrossOut.bad HO.out rfl HB0.out
end Go.Proofs.YtjmlcobbjpmjpaaDoor
