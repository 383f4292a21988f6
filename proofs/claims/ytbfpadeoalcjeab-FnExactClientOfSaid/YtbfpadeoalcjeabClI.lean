/- Clients: the client of a name. -/
import Derived.Test.YtbfpadeoalcjeabClH
set_option linter.unusedVariables false
namespace Go.Proofs.Ytbfpadeoalcjeab
open Go.RowKit

set_option maxHeartbeats 2000000 in
theorem specClientOf_any (A : Option Addr) (n c : Nat) (l : List Cl) (s : ByteArray) (B : Nat) (w : World) (h : Reads w B 5 A n (cls l)) (hB : B ≤ w.heap.size) (hn : n ≤ 1048576) (hsm : ∀ x ∈ l, x.small) (hgd : ∀ x ∈ l, x.good) (hs : s.size ≤ 1048576) :
    Calls Try.prog 19 #[.slice A n c, .string s] w fun e w' => e = .returned (.tuple #[.agg #[.string (clientF l s).1.name, .int .i64 (clientF l s).1.station, .int .i64 (clientF l s).1.from_, .int .i64 (clientF l s).1.to_, .int .i64 (clientF l s).1.quota], .int .i64 (clientF l s).2]) ∧ Below w.heap.size w w' := by
  have h1 : Reads (w.alloc (.cells #[.string ⟨#[]⟩, .int .i64 0, .int .i64 0, .int .i64 0, .int .i64 0] 33)) B 5 A n (cls l) := h.on hB ((Below.refl _ _).alloc (Nat.le_refl _) _)
  have hB1 : B ≤ (w.alloc (.cells #[.string ⟨#[]⟩, .int .i64 0, .int .i64 0, .int .i64 0, .int .i64 0] 33)).heap.size := by simp; omega
  have bx := Blk.new w 33 #[.string ⟨#[]⟩, .int .i64 0, .int .i64 0, .int .i64 0, .int .i64 0]
  have hl := Lib.hid (cls_len h)
  by_cases hc : (namedF l s true).2 = 0
  · obtain ⟨hok, i, x, hnm, hx⟩ := named_cases hc
    have hin : i < n := by have := (List.getElem?_eq_some_iff.1 hx).1; have := hl.out; omega
    rw [clientF_ok hnm hx]
    go_enter Try.func19, Try.ntmps19
    go_wp2_with fail
    refine (l24Named_any A n c l s B _ h1 hB1 hn hsm hgd).mono ?_
    rintro e w1 ⟨rfl, b1⟩
    rw [hnm]
    obtain ⟨y, b, off, he, rfl, hb, c0, c1, c2, c3, c4⟩ := cl_at (h1.on hB1 b1) hin
    obtain rfl : x = y := by rw [hx] at he; injection he
    have bx1 := bx.on b1
    have hc0 := bx1.cellAt 0 (by decide)
    have hc1 := bx1.cellAt 1 (by decide)
    have hc2 := bx1.cellAt 2 (by decide)
    have hc3 := bx1.cellAt 3 (by decide)
    have hc4 := bx1.cellAt 4 (by decide)
    have hf0 := bx1.frozen 0
    have hf1 := bx1.frozen 1
    have hf2 := bx1.frozen 2
    have hf3 := bx1.frozen 3
    have hf4 := bx1.frozen 4
    have HB := Lib.hid (bnext ((Below.refl w.heap.size w).alloc (Nat.le_refl _) _) b1 (Nat.le_refl _))
    have hi0 : (0 : Int) ≤ i := by omega
    have hi1 : (i : Int) < n := by omega
    clear he hx hnm hc h h1 b1 bx bx1 hsm hgd hok
    go_wp2
    exact bodyPost_ret (v := .tuple #[.agg #[.string x.name, .int .i64 x.station, .int .i64 x.from_, .int .i64 x.to_, .int .i64 x.quota], .int .i64 0]) (by simp [results, Try.results19, go_sem, hc0, hc1, hc2, hc3, hc4]) rfl ⟨rfl, ((((HB.out.setCell (Nat.le_refl _) _).setCell (Nat.le_refl _) _).setCell (Nat.le_refl _) _).setCell (Nat.le_refl _) _).setCell (Nat.le_refl _) _⟩
  · have HO := Lib.hid (clientF_bad hc)
    have hc' : ((namedF l s true).2 != 0) = true := by simp [hc]
    clear hc
    go_enter Try.func19, Try.ntmps19
    go_wp2_with fail
    refine (l24Named_any A n c l s B _ h1 hB1 hn hsm hgd).mono ?_
    rintro e w1 ⟨rfl, b1⟩
    have bx1 := bx.on b1
    have hc0 := bx1.cellAt 0 (by decide)
    have hc1 := bx1.cellAt 1 (by decide)
    have hc2 := bx1.cellAt 2 (by decide)
    have hc3 := bx1.cellAt 3 (by decide)
    have hc4 := bx1.cellAt 4 (by decide)
    have hf0 := bx1.frozen 0
    have hf1 := bx1.frozen 1
    have hf2 := bx1.frozen 2
    have hf3 := bx1.frozen 3
    have hf4 := bx1.frozen 4
    have HB := Lib.hid (bnext ((Below.refl w.heap.size w).alloc (Nat.le_refl _) _) b1 (Nat.le_refl _))
    clear h h1 b1 bx bx1 hsm hgd
    go_wp2
    exact bodyPost_ret (v := .tuple #[.agg #[.string ⟨#[]⟩, .int .i64 0, .int .i64 0, .int .i64 0, .int .i64 0], .int .i64 (namedF l s true).2]) (by simp [results, Try.results19, go_sem, hc0, hc1, hc2, hc3, hc4]) rfl ⟨by rw [HO.out], ((((HB.out.setCell (Nat.le_refl _) _).setCell (Nat.le_refl _) _).setCell (Nat.le_refl _) _).setCell (Nat.le_refl _) _).setCell (Nat.le_refl _) _⟩

set_option maxHeartbeats 2000000 in
theorem implClientOf_any (A : Option Addr) (n c : Nat) (l : List Cl) (s : ByteArray) (B : Nat) (w : World) (h : Reads w B 5 A n (cls l)) (hB : B ≤ w.heap.size) (hn : n ≤ 1048576) (hsm : ∀ x ∈ l, x.small) (hgd : ∀ x ∈ l, x.good) (hs : s.size ≤ 1048576) :
    Calls Try.prog 20 #[.slice A n c, .string s] w fun e w' => e = .returned (.tuple #[.agg #[.string (clientF l s).1.name, .int .i64 (clientF l s).1.station, .int .i64 (clientF l s).1.from_, .int .i64 (clientF l s).1.to_, .int .i64 (clientF l s).1.quota], .int .i64 (clientF l s).2]) ∧ Below w.heap.size w w' := by
  have h1 : Reads (w.alloc (.cells #[.string ⟨#[]⟩, .int .i64 0, .int .i64 0, .int .i64 0, .int .i64 0] 33)) B 5 A n (cls l) := h.on hB ((Below.refl _ _).alloc (Nat.le_refl _) _)
  have hB1 : B ≤ (w.alloc (.cells #[.string ⟨#[]⟩, .int .i64 0, .int .i64 0, .int .i64 0, .int .i64 0] 33)).heap.size := by simp; omega
  have bx := Blk.new w 33 #[.string ⟨#[]⟩, .int .i64 0, .int .i64 0, .int .i64 0, .int .i64 0]
  have hl := Lib.hid (cls_len h)
  by_cases hc : (namedF l s true).2 = 0
  · obtain ⟨hok, i, x, hnm, hx⟩ := named_cases hc
    have hin : i < n := by have := (List.getElem?_eq_some_iff.1 hx).1; have := hl.out; omega
    rw [clientF_ok hnm hx]
    go_enter Try.func20, Try.ntmps20
    go_wp2_with fail
    refine (clientCode_any A n c l s true B _ h1 hB1 hn hsm hgd).mono ?_
    rintro e w1 ⟨rfl, b1⟩
    rw [hnm]
    obtain ⟨y, b, off, he, rfl, hb, c0, c1, c2, c3, c4⟩ := cl_at (h1.on hB1 b1) hin
    obtain rfl : x = y := by rw [hx] at he; injection he
    have bx1 := bx.on b1
    have hc0 := bx1.cellAt 0 (by decide)
    have hc1 := bx1.cellAt 1 (by decide)
    have hc2 := bx1.cellAt 2 (by decide)
    have hc3 := bx1.cellAt 3 (by decide)
    have hc4 := bx1.cellAt 4 (by decide)
    have hf0 := bx1.frozen 0
    have hf1 := bx1.frozen 1
    have hf2 := bx1.frozen 2
    have hf3 := bx1.frozen 3
    have hf4 := bx1.frozen 4
    have HB := Lib.hid (bnext ((Below.refl w.heap.size w).alloc (Nat.le_refl _) _) b1 (Nat.le_refl _))
    have hi0 : (0 : Int) ≤ i := by omega
    have hi1 : (i : Int) < n := by omega
    clear he hx hnm hc h h1 b1 bx bx1 hsm hgd hok
    go_wp2
    exact bodyPost_ret (v := .tuple #[.agg #[.string x.name, .int .i64 x.station, .int .i64 x.from_, .int .i64 x.to_, .int .i64 x.quota], .int .i64 0]) (by simp [results, Try.results20, go_sem, hc0, hc1, hc2, hc3, hc4]) rfl ⟨rfl, ((((HB.out.setCell (Nat.le_refl _) _).setCell (Nat.le_refl _) _).setCell (Nat.le_refl _) _).setCell (Nat.le_refl _) _).setCell (Nat.le_refl _) _⟩
  · have HO := Lib.hid (clientF_bad hc)
    have hc' : ((namedF l s true).2 != 0) = true := by simp [hc]
    clear hc
    go_enter Try.func20, Try.ntmps20
    go_wp2_with fail
    refine (clientCode_any A n c l s true B _ h1 hB1 hn hsm hgd).mono ?_
    rintro e w1 ⟨rfl, b1⟩
    have bx1 := bx.on b1
    have hc0 := bx1.cellAt 0 (by decide)
    have hc1 := bx1.cellAt 1 (by decide)
    have hc2 := bx1.cellAt 2 (by decide)
    have hc3 := bx1.cellAt 3 (by decide)
    have hc4 := bx1.cellAt 4 (by decide)
    have hf0 := bx1.frozen 0
    have hf1 := bx1.frozen 1
    have hf2 := bx1.frozen 2
    have hf3 := bx1.frozen 3
    have hf4 := bx1.frozen 4
    have HB := Lib.hid (bnext ((Below.refl w.heap.size w).alloc (Nat.le_refl _) _) b1 (Nat.le_refl _))
    clear h h1 b1 bx bx1 hsm hgd
    go_wp2
    exact bodyPost_ret (v := .tuple #[.agg #[.string ⟨#[]⟩, .int .i64 0, .int .i64 0, .int .i64 0, .int .i64 0], .int .i64 (namedF l s true).2]) (by simp [results, Try.results20, go_sem, hc0, hc1, hc2, hc3, hc4]) rfl ⟨by rw [HO.out], ((((HB.out.setCell (Nat.le_refl _) _).setCell (Nat.le_refl _) _).setCell (Nat.le_refl _) _).setCell (Nat.le_refl _) _).setCell (Nat.le_refl _) _⟩
end Go.Proofs.Ytbfpadeoalcjeab
