/- What the closures of DebtorsOn say; slices' rotate and insertionSort at strings. -/
import Derived.Test.YtnlghcpidlpfkaaStw
set_option linter.unusedVariables false
set_option linter.unusedSimpArgs false
namespace Go.Proofs.Ytnlghcpidlpfkaa
open Go.RowKit Stb

def cmpI (a b : Int) : Int := if a < b then -1 else if a = b then 0 else 1
theorem cmpI_neg {a b : Int} : cmpI a b < 0 ↔ a < b := by
  unfold cmpI
  split
  · simp [*]
  · split <;> simp [*]
theorem isNaNI_any (a : Int) (w : World) : Calls Try.prog 211 #[.int .i64 a] w fun e w' => e = .returned (.bool false) ∧ w = w' := by
  have h : (a == a) = true := by simp
  go_enter Try.func211, Try.ntmps211
  go_wp2
  go_ret
  exact ⟨by simp, rfl⟩
theorem cmpCompareI_any (a b : Int) (w : World) : Calls Try.prog 147 #[.int .i64 a, .int .i64 b] w fun e w' => e = .returned (.int .i64 (cmpI a b)) ∧ w = w' := by
  rcases Int.lt_trichotomy a b with h | h | h
  · have HO := Lib.hid (show cmpI a b = -1 by simp [cmpI, h])
    go_enter Try.func147, Try.ntmps147
    go_wp2_with (go_at_call 211; refine (isNaNI_any _ _).mono ?_; rintro e w2 ⟨rfl, rfl⟩)
    go_ret
    exact ⟨ret_int HO.out.symm, rfl⟩
  · have HO := Lib.hid (show cmpI a b = 0 by simp [cmpI, h])
    have h1 : decide (a < b) = false := decide_eq_false (by omega)
    have h2 : decide (b < a) = false := decide_eq_false (by omega)
    have h3 : (a == b) = true := by simp [h]
    clear h
    go_enter Try.func147, Try.ntmps147
    go_wp2_with (go_at_call 211; refine (isNaNI_any _ _).mono ?_; rintro e w2 ⟨rfl, rfl⟩)
    go_ret
    exact ⟨ret_int HO.out.symm, rfl⟩
  · have HO := Lib.hid (show cmpI a b = 1 by unfold cmpI; rw [if_neg (by omega), if_neg (by omega)])
    have h1 : decide (a < b) = false := decide_eq_false (by omega)
    go_enter Try.func147, Try.ntmps147
    go_wp2_with (go_at_call 211; refine (isNaNI_any _ _).mono ?_; rintro e w2 ⟨rfl, rfl⟩)
    go_ret
    exact ⟨ret_int HO.out.symm, rfl⟩

theorem debt1_any (A : Option Addr) (n c : Nat) (l : List Bk) (d : Int) (s : ByteArray) (g2 g3 B : Nat) (w : World) (h : Reads w B 3 A n (bks l)) (hB : B ≤ w.heap.size) (hok : okBks l = true) (hd : I64 d) (k1 : w.cell? ⟨g2, 0, none⟩ = some (.slice A n c)) (k2 : w.cell? ⟨g3, 0, none⟩ = some (.int .i64 d)) :
    Calls Try.prog 143 #[.string s, .pointer (some ⟨g2, 0, none⟩), .pointer (some ⟨g3, 0, none⟩)] w fun e w' => e = .returned (.bool (decide (bal l s d ≤ 0))) ∧ Below w.heap.size w w' := by
  have HK := Lib.hid hok
  clear hok
  go_enter Try.func143, Try.ntmps143
  go_wp2_with fail
  refine (balanceOn_any A n c l s d B _ h hB HK.out hd).mono ?_
  rintro e w1 ⟨rfl, b1⟩
  go_wp2
  go_ret
  exact ⟨rfl, b1⟩
set_option maxHeartbeats 1000000 in
set_option maxRecDepth 100000 in
theorem debt2_any (A : Option Addr) (n c : Nat) (l : List Bk) (d : Int) (x y : ByteArray) (g2 g3 B : Nat) (w : World) (h : Reads w B 3 A n (bks l)) (hB : B ≤ w.heap.size) (hok : okBks l = true) (hd : I64 d) (k1 : w.cell? ⟨g2, 0, none⟩ = some (.slice A n c)) (k2 : w.cell? ⟨g3, 0, none⟩ = some (.int .i64 d)) :
    Calls Try.prog 146 #[.string x, .string y, .pointer (some ⟨g2, 0, none⟩), .pointer (some ⟨g3, 0, none⟩)] w fun e w' => e = .returned (.int .i64 (cmpI (bal l y d) (bal l x d))) ∧ Below w.heap.size w w' := by
  have HK := Lib.hid hok
  clear hok
  go_enter Try.func146, Try.ntmps146
  go_wp2_with fail
  refine wp_region_held_drew (S := (fun W => W.cell? ⟨g2, 0, none⟩ = some (.slice A n c) ∧ W.cell? ⟨g3, 0, none⟩ = some (.int .i64 d) ∧ Reads W B 3 A n (bks l) ∧ Below w.heap.size w W)) (by kernel_rfl) ?_ (fun hHeld => ?_)
  · exact ⟨k1, k2, h, (Below.refl _ _).drew⟩
  refine wpAnyH_take (i := 0) (v := ?_) rfl (by kernel_rfl) (by kernel_rfl) (by kernel_rfl) (fun _ _ _ h => h) (Or.inl ⟨by kernel_rfl, ?_⟩) (by assumption) ?_
  rotate_left 1
  · intro w hSw; (try dsimp only at hSw); (have l1 := hSw.1); (have l2 := hSw.2.1); go_simp; try with_reducible rfl
  try simp only [Act.put, List.getElem_toArray, List.getElem_cons_succ, List.getElem_cons_zero, List.setIfInBounds_toArray, List.set_cons_zero, List.set_cons_succ]
  refine wpAnyH_take (i := 1) (v := ?_) rfl (by kernel_rfl) (by kernel_rfl) (by kernel_rfl) (fun _ _ _ h => h) (Or.inl ⟨by kernel_rfl, ?_⟩) (by assumption) ?_
  rotate_left 1
  · intro w hSw; (try dsimp only at hSw); go_simp; try with_reducible rfl
  try simp only [Act.put, List.getElem_toArray, List.getElem_cons_succ, List.getElem_cons_zero, List.setIfInBounds_toArray, List.set_cons_zero, List.set_cons_succ]
  refine wpAnyH_take (i := 2) (v := ?_) rfl (by kernel_rfl) (by kernel_rfl) (by kernel_rfl) (fun _ _ _ h => h) (Or.inl ⟨by kernel_rfl, ?_⟩) (by assumption) ?_
  rotate_left 1
  · intro w hSw; (try dsimp only at hSw); (have l1 := hSw.1); (have l2 := hSw.2.1); go_simp; try with_reducible rfl
  try simp only [Act.put, List.getElem_toArray, List.getElem_cons_succ, List.getElem_cons_zero, List.setIfInBounds_toArray, List.set_cons_zero, List.set_cons_succ]
  refine wpAnyH_take (i := 4) (v := ?_) rfl (by kernel_rfl) (by kernel_rfl) (by kernel_rfl) (fun _ _ _ h => h) (Or.inl ⟨by kernel_rfl, ?_⟩) (by assumption) ?_
  rotate_left 1
  · intro w hSw; (try dsimp only at hSw); (have l1 := hSw.1); (have l2 := hSw.2.1); go_simp; try with_reducible rfl
  try simp only [Act.put, List.getElem_toArray, List.getElem_cons_succ, List.getElem_cons_zero, List.setIfInBounds_toArray, List.set_cons_zero, List.set_cons_succ]
  refine wpAnyH_take (i := 5) (v := ?_) rfl (by kernel_rfl) (by kernel_rfl) (by kernel_rfl) (fun _ _ _ h => h) (Or.inl ⟨by kernel_rfl, ?_⟩) (by assumption) ?_
  rotate_left 1
  · intro w hSw; (try dsimp only at hSw); go_simp; try with_reducible rfl
  try simp only [Act.put, List.getElem_toArray, List.getElem_cons_succ, List.getElem_cons_zero, List.setIfInBounds_toArray, List.set_cons_zero, List.set_cons_succ]
  refine wpAnyH_take (i := 6) (v := ?_) rfl (by kernel_rfl) (by kernel_rfl) (by kernel_rfl) (fun _ _ _ h => h) (Or.inl ⟨by kernel_rfl, ?_⟩) (by assumption) ?_
  rotate_left 1
  · intro w hSw; (try dsimp only at hSw); (have l1 := hSw.1); (have l2 := hSw.2.1); go_simp; try with_reducible rfl
  try simp only [Act.put, List.getElem_toArray, List.getElem_cons_succ, List.getElem_cons_zero, List.setIfInBounds_toArray, List.set_cons_zero, List.set_cons_succ]
  refine wpAnyH_ready (rs := [3]) (by kernel_rfl) (by simp) ?_
  refine AllReadyH.cons rfl (fun K hK => ?_) AllReadyH.nil
  go_simp
  go_at_call 144
  refine (balanceOn_any A n c l y d B _ hHeld.2.2.1 (by have := hHeld.2.2.2.size; omega) HK.out hd).mono ?_
  rintro e w1 ⟨rfl, b1⟩
  have b1' := b1
  clear b1
  go_wp2_with fail
  refine hK.out _ _ ?_ (fun hNew => ?_)
  · exact ⟨cell_on b1' hHeld.1, cell_on b1' hHeld.2.1, hHeld.2.2.1.on (by have := hHeld.2.2.2.size; omega) b1', bnext hHeld.2.2.2 b1' (Nat.le_refl _)⟩
  clear hK K hHeld
  have hHeld := hNew
  clear hNew
  try simp only [Act.put, List.getElem_toArray, List.getElem_cons_succ, List.getElem_cons_zero, List.setIfInBounds_toArray, List.set_cons_zero, List.set_cons_succ]
  refine wpAnyH_ready (rs := [7]) (by kernel_rfl) (by simp) ?_
  refine AllReadyH.cons rfl (fun K hK => ?_) AllReadyH.nil
  go_simp
  go_at_call 144
  refine (balanceOn_any A n c l x d B _ hHeld.2.2.1 (by have := hHeld.2.2.2.size; omega) HK.out hd).mono ?_
  rintro e w1 ⟨rfl, b1⟩
  have b1' := b1
  clear b1
  go_wp2_with fail
  refine hK.out _ _ ?_ (fun hNew => ?_)
  · exact ⟨cell_on b1' hHeld.1, cell_on b1' hHeld.2.1, hHeld.2.2.1.on (by have := hHeld.2.2.2.size; omega) b1', bnext hHeld.2.2.2 b1' (Nat.le_refl _)⟩
  clear hK K hHeld
  have hHeld := hNew
  clear hNew
  try simp only [Act.put, List.getElem_toArray, List.getElem_cons_succ, List.getElem_cons_zero, List.setIfInBounds_toArray, List.set_cons_zero, List.set_cons_succ]
  refine wpAnyH_ready (rs := [8]) (by kernel_rfl) (by simp) ?_
  refine AllReadyH.cons rfl (fun K hK => ?_) AllReadyH.nil
  go_simp
  go_at_call 147
  refine (cmpCompareI_any _ _ _).mono ?_
  rintro e w1 ⟨rfl, rfl⟩
  go_wp2_with fail
  refine hK.out _ _ ?_ (fun hNew => ?_)
  · exact hHeld
  clear hK K hHeld
  have hHeld := hNew
  clear hNew
  try simp only [Act.put, List.getElem_toArray, List.getElem_cons_succ, List.getElem_cons_zero, List.setIfInBounds_toArray, List.set_cons_zero, List.set_cons_succ]
  refine wpAnyH_take (i := 9) (v := ?_) rfl (by kernel_rfl) (by kernel_rfl) (by kernel_rfl) (fun _ _ _ h => h) (Or.inl ⟨by kernel_rfl, ?_⟩) (by assumption) ?_
  rotate_left 1
  · intro w hSw; (try dsimp only at hSw); go_simp; try with_reducible rfl
  try simp only [Act.put, List.getElem_toArray, List.getElem_cons_succ, List.getElem_cons_zero, List.setIfInBounds_toArray, List.set_cons_zero, List.set_cons_succ]
  refine wpAnyH_done (by kernel_rfl) ?_ _
  have HF := Lib.hid hHeld.2.2.2
  go_wp2
  go_ret
  exact ⟨rfl, HF.out⟩

/-- What a comparison hands back while a row is being sorted: all else that lay at the beginning is as it was. -/
def CmpAt (w0 : World) (g g2 g3 : Nat) (cf : ByteArray → ByteArray → Int) : Prop := ∀ (W : World) (x y : ByteArray), Only g (g + 1) w0 W → Calls Try.prog 146 #[.string x, .string y, .pointer (some ⟨g2, 0, none⟩), .pointer (some ⟨g3, 0, none⟩)] W fun e w' => e = .returned (.int .i64 (cf x y)) ∧ Below W.heap.size W w'

set_option maxHeartbeats 1000000 in
set_option maxRecDepth 100000 in
theorem rotate_any (g n c lo hi a m b : Nat) (f : Nat → ByteArray) (cb : Value) (w : World) (h : Sl w lo hi 9 1 (some ⟨g, 0, none⟩) n c (strs (row (f) n))) (ham : a < m) (hmb : m < b) (hb : b ≤ n) (hn : n ≤ 1000000000) :
    Calls Try.prog 250 #[.slice (some ⟨g, 0, none⟩) n c, .int .i64 (a : Int), .int .i64 (m : Int), .int .i64 (b : Int), cb] w fun e w' => e = .returned (.tuple #[]) ∧ Sl w' lo hi 9 1 (some ⟨g, 0, none⟩) n c (strs (row (rota f a m b) n)) ∧ Only g (g + 1) w w' := by
  have HH := Lib.hid h
  clear h
  obtain ⟨i0, hi0⟩ : ∃ x : Nat, (m : Int) - (a : Int) = (x : Int) := ⟨m - a, by omega⟩
  obtain ⟨j0, hj0⟩ : ∃ x : Nat, (b : Int) - (m : Int) = (x : Int) := ⟨b - m, by omega⟩
  have hiw : IntKind.i64.wrap (i0 : Int) = i0 := by rw [IntKind.wrap_i64]; omega
  have hjw : IntKind.i64.wrap (j0 : Int) = j0 := by rw [IntKind.wrap_i64]; omega
  have HST := Lib.hid (show 0 < i0 ∧ 0 < j0 ∧ i0 ≤ m ∧ m + j0 ≤ n ∧ rota f (m - i0) m (m + j0) = rota f a m b by
    refine ⟨by omega, by omega, by omega, by omega, ?_⟩
    rw [show m - i0 = a by omega, show m + j0 = b by omega])
  go_enter Try.func250, Try.ntmps250
  go_wp2
  go_loopw [10, 11] (fun p q wr => ∃ (i j : Nat) (f1 : Nat → ByteArray), (0 < i ∧ 0 < j ∧ i ≤ m ∧ m + j ≤ n) ∧ p = .int .i64 (i : Int) ∧ q = .int .i64 (j : Int) ∧ Sl wr lo hi 9 1 (some ⟨g, 0, none⟩) n c (strs (row (f1) n)) ∧ rota f1 (m - i) m (m + j) = rota f a m b ∧ Only g (g + 1) w wr) (fun p q _ => (intOf p).toNat + (intOf q).toNat)
  case atStart => exact ⟨i0, j0, f, ⟨HST.out.1, HST.out.2.1, HST.out.2.2.1, HST.out.2.2.2.1⟩, rfl, rfl, HH.out, HST.out.2.2.2.2, Only.refl _ _ _⟩
  case round =>
    obtain ⟨i, j, f1, ⟨hi1, hj1, him, hmj⟩, rfl, rfl, hsl, hro, ho⟩ := hrel
    have HSL := Lib.hid hsl
    have HO := Lib.hid ho
    have HRO := Lib.hid hro
    clear hsl ho hro HH HST hi0 hj0 hiw hjw
    obtain ⟨x, hx⟩ : ∃ x : Nat, (m : Int) - (i : Int) = (x : Int) := ⟨m - i, by omega⟩
    have hxw : IntKind.i64.wrap (x : Int) = x := by rw [IntKind.wrap_i64]; omega
    have hxe : m - i = x := by omega
    rcases Nat.lt_trichotomy i j with hlt | heq | hgt
    · have h1 : ((i : Int) != (j : Int)) = true := by rw [bne_iff_ne]; omega
      have h2 : decide ((j : Int) < (i : Int)) = false := decide_eq_false (by omega)
      have h2' : decide (j < i) = false := decide_eq_false (by omega)
      have h3 : (i != j) = true := by rw [bne_iff_ne]; omega
      have hneq : ¬ (i : Int) = (j : Int) := by omega
      have hneq2 : ¬ i = j := by omega
      obtain ⟨y, hy⟩ : ∃ y : Nat, (m : Int) + (j : Int) = (y : Int) := ⟨m + j, by omega⟩
      have hyw : IntKind.i64.wrap (y : Int) = y := by rw [IntKind.wrap_i64]; omega
      obtain ⟨z, hz⟩ : ∃ z : Nat, (y : Int) - (i : Int) = (z : Int) := ⟨y - i, by omega⟩
      have hzw : IntKind.i64.wrap (z : Int) = z := by rw [IntKind.wrap_i64]; omega
      obtain ⟨j', hj'⟩ : ∃ z : Nat, (j : Int) - (i : Int) = (z : Int) := ⟨j - i, by omega⟩
      have hjw' : IntKind.i64.wrap (j' : Int) = j' := by rw [IntKind.wrap_i64]; omega
      have HR := Lib.hid (rota_right f1 him hlt)
      rw [hxe, show m + j - i = z by omega] at HR
      go_wp2_with fail
      refine (swapRange_any g n c lo hi x z i f1 cb _ HSL.out (by omega) (by omega) hn).mono ?_
      rintro e w1 ⟨rfl, sl1, o1⟩
      have HS1 := Lib.hid sl1
      have HO1 := Lib.hid (HO.out.trans o1)
      clear sl1 o1
      go_wp2
      go_roundw
      case rel => exact ⟨i, j', exch f1 x z i, ⟨hi1, by omega, him, by omega⟩, rfl, rfl, HS1.out, by rw [← HRO.out, hxe, ← HR.out, show m + j' = z by omega], HO1.out⟩
      case measure => simp [intOf]; omega
    · subst heq
      have HR := Lib.hid (rota_same f1 him)
      rw [hxe] at HR
      go_wp2_with fail
      refine (swapRange_any g n c lo hi x m i f1 cb _ HSL.out (by omega) (by omega) hn).mono ?_
      rintro e w1 ⟨rfl, sl1, o1⟩
      have HS1 := Lib.hid sl1
      have HO1 := Lib.hid (HO.out.trans o1)
      clear sl1 o1
      go_wp2
      go_end0
      refine ⟨rfl, ?_, HO1.out⟩
      rw [← HRO.out, hxe, ← HR.out]
      exact HS1.out
    · have h1 : ((i : Int) != (j : Int)) = true := by rw [bne_iff_ne]; omega
      have h3 : (i != j) = true := by rw [bne_iff_ne]; omega
      have hneq : ¬ (i : Int) = (j : Int) := by omega
      have hneq2 : ¬ i = j := by omega
      have h2 : decide ((j : Int) < (i : Int)) = true := decide_eq_true (by omega)
      obtain ⟨i', hi'⟩ : ∃ z : Nat, (i : Int) - (j : Int) = (z : Int) := ⟨i - j, by omega⟩
      have hiw' : IntKind.i64.wrap (i' : Int) = i' := by rw [IntKind.wrap_i64]; omega
      have HR := Lib.hid (rota_left f1 him hgt)
      rw [hxe] at HR
      go_wp2_with fail
      refine (swapRange_any g n c lo hi x m j f1 cb _ HSL.out (by omega) (by omega) hn).mono ?_
      rintro e w1 ⟨rfl, sl1, o1⟩
      have HS1 := Lib.hid sl1
      have HO1 := Lib.hid (HO.out.trans o1)
      clear sl1 o1
      go_wp2
      go_roundw
      case rel => exact ⟨i', j, exch f1 x m j, ⟨by omega, hj1, by omega, hmj⟩, rfl, rfl, HS1.out, by rw [← HRO.out, hxe, ← HR.out, show m - i' = x + j by omega], HO1.out⟩
      case measure => simp [intOf]; omega

end Go.Proofs.Ytnlghcpidlpfkaa
