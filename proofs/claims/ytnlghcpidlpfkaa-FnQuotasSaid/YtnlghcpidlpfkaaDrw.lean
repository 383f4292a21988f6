/- The source's methods: next, pick, one, among, text; each turns the source alone. -/
import Derived.Test.YtnlghcpidlpfkaaSrcP
import Derived.Deep.QuietTactic
import Derived.BigQuiet
set_option linter.unusedVariables false
set_option linter.unusedSimpArgs false
namespace Go.Proofs.Ytnlghcpidlpfkaa
open Go.RowKit

theorem byt_at {w : World} {B n k : Nat} {A : Option Addr} {l : List Int} (h : Reads w B 1 A n (byts l)) (hk : k < n) :
    ∃ (x : Int) (b off : Nat), l[k]? = some x ∧ A = some ⟨b, off, none⟩ ∧ b < B ∧ w.cell? ⟨b, off + k, none⟩ = some (.int .u8 x) := by
  obtain ⟨b, off, rfl, hb, hcell⟩ := h.at_ (by omega)
  have hl := h.1
  rw [byts_length] at hl
  have he : l[k]? = some l[k] := List.getElem?_eq_getElem (by omega)
  exact ⟨_, b, off, he, rfl, hb, hcell _ _ (byts_get he)⟩

theorem wrap_u64_le (n : Int) : IntKind.u64.wrap n ≤ 18446744073709551615 := by rw [IntKind.wrap_u64]; omega
theorem wrap_u64_ge (n : Int) : 0 ≤ IntKind.u64.wrap n := by rw [IntKind.wrap_u64]; omega
theorem byt_bits {s : Int} (h0 : 0 ≤ s) (h1 : s ≤ 18446744073709551615) : Byt (wrap64 (bits BinOp.and IntKind.u64 (s / 1099511627776) 255)) := by
  obtain ⟨q, hq⟩ := Int.eq_ofNat_of_zero_le (show 0 ≤ s / 1099511627776 by omega)
  rw [hq]
  have e : bits BinOp.and IntKind.u64 (q : Int) 255 = ((q &&& 255 : Nat) : Int) := bits_and_u64_nat q 255 (by omega) (by omega)
  rw [e]
  have hle : q &&& 255 ≤ 255 := Nat.and_le_right
  generalize q &&& 255 = y at hle ⊢
  have : wrap64 (y : Int) = y := by simp only [wrap64]; omega
  rw [this]
  unfold Byt
  omega
/-- The source behind one question more. -/
theorem src_set {g k n c a : Nat} {A : Option Addr} {bs : List Int} {sd sd2 : Int} {w : World} (hb : Blk w g 218 #[.slice A n c, .int .i64 (a : Int), .int .u64 sd]) (hr : Reads w g 1 A n (byts bs)) (hby : ∀ x ∈ bs, Byt x) (ha : a ≤ k) (hn : n ≤ 9223372036854775807) (h0 : 0 ≤ sd2) (h1 : sd2 ≤ 18446744073709551615) (m m2 : Nat) :
    Src g (k + 1) ((((w.drewN m).setCell ⟨g, 1, none⟩ (.int .i64 ((a : Int) + 1))).setCell ⟨g, 2, none⟩ (.int .u64 sd2)).drewN m2) ∧ Only g (g + 1) w ((((w.drewN m).setCell ⟨g, 1, none⟩ (.int .i64 ((a : Int) + 1))).setCell ⟨g, 2, none⟩ (.int .u64 sd2)).drewN m2) := by
  have ho : Only g (g + 1) w ((((w.drewN m).setCell ⟨g, 1, none⟩ (.int .i64 ((a : Int) + 1))).setCell ⟨g, 2, none⟩ (.int .u64 sd2)).drewN m2) := ((((Only.refl g (g + 1) w).drewN m).setCell (p := ⟨g, 1, none⟩) (Nat.le_refl g) (Nat.lt_succ_self g) _).setCell (p := ⟨g, 2, none⟩) (Nat.le_refl g) (Nat.lt_succ_self g) _).drewN m2
  refine ⟨⟨A, n, c, bs, a + 1, sd2, ?_, hr.keep fun p hp => World.cell?_of_block (ho.block p.block (by have := hb.lt; omega) (by omega)), by omega, hby, hn, h0, h1⟩, ho⟩
  have := (((hb.drewN m).set_ 1 (.int .i64 ((a : Int) + 1))).set_ 2 (.int .u64 sd2)).drewN m2
  simpa using this
theorem l00From_any (A : Option Addr) (n c : Nat) (bs : List Int) (w : World) (h : Reads w w.heap.size 1 A n (byts bs)) (hb : ∀ x ∈ bs, Byt x) (hn : n ≤ 9223372036854775807) :
    Calls Try.prog 149 #[.slice A n c] w fun e w' => e = .returned (.pointer (some ⟨w.heap.size, 0, none⟩)) ∧ Src w.heap.size 0 w' ∧ Below w.heap.size w w' ∧ w.heap.size < w'.heap.size := by
  have HS := Lib.hid (src_new (c := c) h hb hn)
  clear h hb
  go_enter Try.func149, Try.ntmps149
  go_wp2
  go_ret
  exact ⟨rfl, HS.out, (Below.refl _ _).alloc (Nat.le_refl _) _, by simp⟩

set_option maxRecDepth 100000 in
theorem next_any (g k : Nat) (w : World) (h : Src g k w) (hk : k ≤ 1000000000000) :
    Calls Try.prog 214 #[.pointer (some ⟨g, 0, none⟩)] w fun e w' => ∃ x : Int, e = .returned (.int .i64 x) ∧ Byt x ∧ Src g (k + 1) w' ∧ Only g (g + 1) w w' := by
  obtain ⟨A, n, c, bs, a, sd, hb, hr, ha, hby, hn, hs0, hs1⟩ := h
  have q0 : w.cell? ⟨g, 0, none⟩ = some (.slice A n c) := hb.cellAt 0 (by simp)
  have q1 : w.cell? ⟨g, 1, none⟩ = some (.int .i64 (a : Int)) := hb.cellAt 1 (by simp)
  have q2 : w.cell? ⟨g, 2, none⟩ = some (.int .u64 sd) := hb.cellAt 2 (by simp)
  have f1 := hb.frozen 1
  have f2 := hb.frozen 2
  have HB := Lib.hid hb
  have HR := Lib.hid hr
  have HY := Lib.hid hby
  clear hb hby
  by_cases hlt : a < n
  · obtain ⟨x, b, off, hx, rfl, hbl, c0⟩ := byt_at hr hlt
    have hxb := HY.out x (List.mem_of_getElem? hx)
    unfold Byt at hxb
    have hne : ¬ b = g := by omega
    clear hx hr
    go_enter Try.func214, Try.ntmps214
    go_wp2_with fail
    go_quiet (fail)
    go_wp2_with fail
    go_quiet (fail)
    go_wp2_with fail
    generalize hsd : IntKind.u64.wrap (IntKind.u64.wrap (IntKind.u64.wrap (sd * 6364136223846793005) + x) + 1442695040888963407) = sd2
    have hsd0 : 0 ≤ sd2 := by rw [← hsd]; exact wrap_u64_ge _
    have hsd1 : sd2 ≤ 18446744073709551615 := by rw [← hsd]; exact wrap_u64_le _
    clear hsd
    have HW := Lib.hid (fun m m2 => src_set (A := some ⟨b, off, none⟩) (n := n) (c := c) (a := a) (sd2 := sd2) HB.out HR.out HY.out ha hn hsd0 hsd1 m m2)
    go_quiet (fail)
    go_wp2
    go_ret
    exact ⟨x, rfl, hxb, (HW.out _ _).1, (HW.out _ _).2⟩
  · have hlt' : decide ((a : Int) < n) = false := by simp; omega
    clear hr
    go_enter Try.func214, Try.ntmps214
    go_wp2_with fail
    go_quiet (fail)
    go_wp2_with fail
    generalize hsd : IntKind.u64.wrap (IntKind.u64.wrap (IntKind.u64.wrap (sd * 6364136223846793005)) + 1442695040888963407) = sd2
    have hsd0 : 0 ≤ sd2 := by rw [← hsd]; exact wrap_u64_ge _
    have hsd1 : sd2 ≤ 18446744073709551615 := by rw [← hsd]; exact wrap_u64_le _
    clear hsd
    have HW := Lib.hid (fun m m2 => src_set (A := A) (n := n) (c := c) (a := a) (sd2 := sd2) HB.out HR.out HY.out ha hn hsd0 hsd1 m m2)
    have hl2 : decide ((a : Int) + 1 ≤ n) = false := by simp; omega
    go_quiet (fail)
    go_wp2_with fail
    go_ret
    refine ⟨_, rfl, ?_, (HW.out _ _).1, (HW.out _ _).2⟩
    exact byt_bits hsd0 hsd1

/-- A number that is picked. -/
theorem pick_any (g k : Nat) (n : Int) (w : World) (h : Src g k w) (hk : k ≤ 100000000000) (hn : I64 n) :
    Calls Try.prog 156 #[.pointer (some ⟨g, 0, none⟩), .int .i64 n] w fun e w' => ∃ x : Int, e = .returned (.int .i64 x) ∧ PickR n x ∧ Src g (k + 2) w' ∧ Only g (g + 1) w w' := by
  have HS := Lib.hid h
  unfold I64 at hn
  by_cases h1 : n ≤ 1
  · have hp : PickR n 0 := ⟨by omega, fun _ => rfl, fun h => by omega, by omega⟩
    have HP := Lib.hid hp
    clear h hp
    go_enter Try.func156, Try.ntmps156
    go_wp2
    go_ret
    exact ⟨0, rfl, HP.out, HS.out.more (by omega), Only.refl _ _ _⟩
  · have h1' : decide (n ≤ 1) = false := by simp; omega
    have hn0 : ¬ n = 0 := by omega
    by_cases h2 : 200 < n
    · go_enter Try.func156, Try.ntmps156
      go_wp2_with fail
      refine (next_any g k _ h (by omega)).mono ?_
      rintro e w1 ⟨x, rfl, hx, s1, o1⟩
      unfold Byt at hx
      go_wp2_with fail
      refine (next_any g (k + 1) _ s1 (by omega)).mono ?_
      rintro e w2 ⟨y, rfl, hy, s2, o2⟩
      unfold Byt at hy
      have HP := Lib.hid (pickR_mod (n := n) (y := x * 256 + y) (by omega) (by omega) (by omega))
      have HF := Lib.hid (o1.trans o2)
      clear o1 o2
      go_wp2
      go_ret
      exact ⟨_, rfl, HP.out, s2, HF.out⟩
    · have h2' : decide (200 < n) = false := by simp; omega
      go_enter Try.func156, Try.ntmps156
      go_wp2_with fail
      refine (next_any g k _ h (by omega)).mono ?_
      rintro e w1 ⟨x, rfl, hx, s1, o1⟩
      unfold Byt at hx
      have HP := Lib.hid (pickR_mod (n := n) (y := x) (by omega) (by omega) (by omega))
      go_wp2
      go_ret
      exact ⟨_, rfl, HP.out, s1.more (by omega), o1⟩
theorem one_any (g k : Nat) (n : Int) (w : World) (h : Src g k w) (hk : k ≤ 100000000000) (hn : I64 n) :
    Calls Try.prog 154 #[.pointer (some ⟨g, 0, none⟩), .int .i64 n] w fun e w' => ∃ x : Bool, e = .returned (.bool x) ∧ Src g (k + 2) w' ∧ Only g (g + 1) w w' := by
  go_enter Try.func154, Try.ntmps154
  go_wp2_with fail
  refine (pick_any g k n _ h hk hn).mono ?_
  rintro e w1 ⟨x, rfl, hx, s1, o1⟩
  go_wp2
  go_ret
  exact ⟨_, rfl, s1, o1⟩
/-- One of some numbers. -/
theorem among_any (g k b m : Nat) (t : TypeId) (xs : List Int) (w : World) (h : Src g k w) (hk : k ≤ 100000000000) (hb : Blk w b t (ints xs).toArray) (hm : xs.length = m) (h0 : 0 < m) (h1 : m ≤ 1000) (hne : g < b) :
    Calls Try.prog 155 #[.pointer (some ⟨g, 0, none⟩), .slice (some ⟨b, 0, none⟩) m m] w fun e w' => ∃ x : Int, e = .returned (.int .i64 x) ∧ x ∈ xs ∧ Src g (k + 2) w' ∧ Only g (g + 1) w w' := by
  have HB := Lib.hid hb
  clear hb
  have HM := Lib.hid hm
  clear hm
  go_enter Try.func155, Try.ntmps155
  go_wp2_with fail
  refine (pick_any g k m _ h hk ⟨by omega, by omega⟩).mono ?_
  rintro e w1 ⟨x, rfl, hx, s1, o1⟩
  have hlt := hx.lt (by omega)
  have hx0 := hx.1
  clear hx
  obtain ⟨j, rfl⟩ := Int.eq_ofNat_of_zero_le hx0
  have hj : j < m := by omega
  have hg : xs[j]? = some (xs[j]'(by have := HM.out; omega)) := List.getElem?_eq_getElem _
  have hc : w1.cell? ⟨b, j, none⟩ = some (.int .i64 (xs[j]'(by have := HM.out; omega))) := by
    have hb1 : Blk w1 b t (ints xs).toArray := (o1.block b HB.out.lt (by omega)).trans HB.out
    exact ints_cell hb1 hg
  have HG := Lib.hid (List.mem_of_getElem? hg)
  generalize xs[j]'(by have := HM.out; omega) = y at *
  clear hg
  go_wp2
  go_ret
  exact ⟨_, rfl, HG.out, s1, o1⟩
/-- One of some texts. -/
theorem text_any (g k b m : Nat) (t : TypeId) (xs : List ByteArray) (w : World) (h : Src g k w) (hk : k ≤ 100000000000) (hb : Blk w b t (strs xs).toArray) (hm : xs.length = m) (h0 : 0 < m) (h1 : m ≤ 1000) (hne : g < b) :
    Calls Try.prog 220 #[.pointer (some ⟨g, 0, none⟩), .slice (some ⟨b, 0, none⟩) m m] w fun e w' => ∃ x : ByteArray, e = .returned (.string x) ∧ x ∈ xs ∧ Src g (k + 2) w' ∧ Only g (g + 1) w w' := by
  have HB := Lib.hid hb
  clear hb
  have HM := Lib.hid hm
  clear hm
  go_enter Try.func220, Try.ntmps220
  go_wp2_with fail
  refine (pick_any g k m _ h hk ⟨by omega, by omega⟩).mono ?_
  rintro e w1 ⟨x, rfl, hx, s1, o1⟩
  have hlt := hx.lt (by omega)
  have hx0 := hx.1
  clear hx
  obtain ⟨j, rfl⟩ := Int.eq_ofNat_of_zero_le hx0
  have hj : j < m := by omega
  have hg : xs[j]? = some (xs[j]'(by have := HM.out; omega)) := List.getElem?_eq_getElem _
  have hc : w1.cell? ⟨b, j, none⟩ = some (.string (xs[j]'(by have := HM.out; omega))) := by
    have hb1 : Blk w1 b t (strs xs).toArray := (o1.block b HB.out.lt (by omega)).trans HB.out
    rw [hb1.cell]; simp [strs, hg]
  have HG := Lib.hid (List.mem_of_getElem? hg)
  generalize xs[j]'(by have := HM.out; omega) = y at *
  clear hg
  go_wp2
  go_ret
  exact ⟨_, rfl, HG.out, s1, o1⟩
end Go.Proofs.Ytnlghcpidlpfkaa
