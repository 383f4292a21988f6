/- LogOf, both sides. -/
import Derived.Test.YtjmlcobbjpmjpaaDoorLogOf
import Derived.Test.YtjmlcobbjpmjpaaDoorEnAt
set_option linter.unusedVariables false
set_option linter.unusedSimpArgs false
namespace Go.Proofs.YtjmlcobbjpmjpaaDoor
open Go.RowKit Go.Lib

set_option maxHeartbeats 4000000 in
set_option maxRecDepth 100000 in
theorem logOf1_any (x : En) (w : World) (hx : x.good) (hsm : x.small) :
    Calls Tryd.prog 60 #[.agg #[.int .i64 x.day, .string x.what, .int .i64 x.val]] w fun e w' => e = .returned (.bool (!okEn x)) ∧ Below w.heap.size w w' := by
  go_enter Tryd.func60, Tryd.ntmps60
  go_wp2_with fail
  refine (implValidEntry_any x _ hx hsm).mono ?_
  rintro e w1 ⟨rfl, b1⟩
  have HB := Lib.hid (bnext ((Below.refl w.heap.size w).alloc (Nat.le_refl _) _) b1 (Nat.le_refl _))
  clear b1
  go_wp2
  go_ret
  exact ⟨rfl, HB.out⟩
set_option maxHeartbeats 4000000 in
set_option maxRecDepth 100000 in
theorem indexFuncEn_any (A : Option Addr) (n c : Nat) (l : List En) (B : Nat) (w : World) (h : Reads w B 3 A n (ens l)) (hB : B ≤ w.heap.size) (hn : n ≤ 1048576) (hsm : ∀ x ∈ l, x.small) (hgd : ∀ x ∈ l, x.good) :
    Calls Tryd.prog 101 #[.slice A n c, .func (.func 60) #[] #[]] w
      fun e w' => e = .returned (.int .i64 (idxI (fun x => !okEn x) l)) ∧ Below w.heap.size w w' := by
  have hl := Lib.hid (ens_len h)
  have HS := Lib.hid hsm
  have HG := Lib.hid hgd
  clear hsm hgd
  go_enter Tryd.func101, Tryd.ntmps101
  go_wp2
  go_loopw [8] (fun i wr => ∃ k : Nat, k ≤ n ∧ i = .int .i64 k ∧ AllTo okEn l k ∧ Below w.heap.size w wr) (fun i _ => n - (RowKit.intOf i).toNat)
  case atStart => exact ⟨0, Nat.zero_le _, rfl, AllTo.zero _ _, Below.refl _ _⟩
  case round =>
    obtain ⟨k, hk, rfl, hall, hbel⟩ := hrel
    have HA := Lib.hid hall
    clear hall
    by_cases hlt : k < n
    · obtain ⟨x, b, off, he, rfl, hb, c0, c1, c2⟩ := en_at (h.on hB hbel) hlt
      have HE := Lib.hid he
      have HX := Lib.hid (HG.out x (List.mem_of_getElem? he))
      have HY := Lib.hid (HS.out x (List.mem_of_getElem? he))
      have HB := Lib.hid hbel
      clear he hbel
      rcases hx : okEn x with _ | _
      · have HO := Lib.hid (show idxI (fun x => !okEn x) l = k from idxI_found HE.out (by simp [hx]) (HA.out.imp fun x hx => by simp [hx]))
        go_wp2_with fail
        (have hc := logOf1_any x wr HX.out HY.out)
        rw [hx] at hc
        refine hc.mono ?_
        rintro e w1 ⟨rfl, b1⟩
        have HF := Lib.hid (bnext HB.out b1 (Nat.le_refl _))
        clear b1 c0 c1 c2 hc hx
        go_wp2
        go_ret
        exact ⟨ret_int HO.out.symm, HF.out⟩
      · have HO := Lib.hid hx
        go_wp2_with fail
        (have hc := logOf1_any x wr HX.out HY.out)
        rw [hx] at hc
        refine hc.mono ?_
        rintro e w1 ⟨rfl, b1⟩
        have HF := Lib.hid (bnext HB.out b1 (Nat.le_refl _))
        clear b1 c0 c1 c2 hc hx
        go_wp2
        go_roundw
        case rel => exact ⟨k + 1, by omega, by go_num, HA.out.step HE.out HO.out, HF.out⟩
        case measure => simp [RowKit.intOf]; omega
    · obtain rfl : k = n := by omega
      have HO := Lib.hid (show idxI (fun x => !okEn x) l = -1 from idxI_none (HA.out.imp fun x hx => by simp [hx]) hl.out)
      go_wp2
      go_ret
      exact ⟨ret_int HO.out.symm, hbel⟩
set_option maxHeartbeats 4000000 in
set_option maxRecDepth 100000 in
theorem containsFuncEn_any (A : Option Addr) (n c : Nat) (l : List En) (B : Nat) (w : World) (h : Reads w B 3 A n (ens l)) (hB : B ≤ w.heap.size) (hn : n ≤ 1048576) (hsm : ∀ x ∈ l, x.small) (hgd : ∀ x ∈ l, x.good) :
    Calls Tryd.prog 59 #[.slice A n c, .func (.func 60) #[] #[]] w
      fun e w' => e = .returned (.bool (!l.all okEn)) ∧ Below w.heap.size w w' := by
  have HO := Lib.hid (show decide (0 ≤ idxI (fun x => !okEn x) l) = !l.all okEn from by rw [idxI_nonneg]; simp [List.any_eq_not_all_not])
  have HC := Lib.hid (indexFuncEn_any A n c l B w h hB hn hsm hgd)
  clear hsm hgd h
  go_enter Tryd.func59, Tryd.ntmps59
  go_wp2_with fail
  refine HC.out.mono ?_
  rintro e w1 ⟨rfl, b1⟩
  have HF := Lib.hid b1
  clear b1
  go_wp2
  go_ret
  exact ⟨ret_bool HO.out, HF.out⟩
theorem daysTo_ok {l : List En} {n : Nat} (hl : l.length = n) (h : ∀ j a b, j + 1 < n → l[j]? = some a → l[j + 1]? = some b → a.day ≤ b.day) : daysUp l = true :=
  daysUp_ok fun k a b ha hb => h k a b (by have := (List.getElem?_eq_some_iff.1 hb).1; omega) ha hb
set_option maxHeartbeats 4000000 in
set_option maxRecDepth 100000 in
theorem specLogOf_any (A : Option Addr) (n c : Nat) (l : List En) (B : Nat) (w : World) (h : Reads w B 3 A n (ens l)) (hB : B ≤ w.heap.size) (hn : n ≤ 1048576) (hsm : ∀ x ∈ l, x.small) (hgd : ∀ x ∈ l, x.good) :
    Calls Tryd.prog 15 #[.slice A n c] w fun e w' => e = .returned (.tuple #[.string (logOfF l).1, .int .i64 (logOfF l).2]) ∧ Below w.heap.size w w' := by
  have hl := Lib.hid (ens_len h)
  have HS := Lib.hid hsm
  have HG := Lib.hid hgd
  clear hsm hgd
  go_enter Tryd.func15, Tryd.ntmps15
  go_wp2
  go_loopw [4] (fun i wr => ∃ k : Nat, k ≤ n ∧ i = .int .i64 k ∧ AllTo okEn l k ∧ Below w.heap.size w wr) (fun i _ => n - (RowKit.intOf i).toNat)
  case atStart => exact ⟨0, Nat.zero_le _, rfl, AllTo.zero _ _, Below.refl _ _⟩
  case round =>
    obtain ⟨k, hk, rfl, hall, hbel⟩ := hrel
    have HA := Lib.hid hall
    have HB := Lib.hid hbel
    clear hall
    by_cases hlt : k < n
    · obtain ⟨x, b, off, he, rfl, hb, c0, c1, c2⟩ := en_at (h.on hB hbel) hlt
      have HE := Lib.hid he
      have hxs : x.what.size ≤ 9223372036854775807 := (HG.out x (List.mem_of_getElem? he)).2.1
      have hi0 : (0 : Int) ≤ k := by omega
      have hi1 : (k : Int) < n := by omega
      clear he hbel
      rcases hx : okEn x with _ | _
      · have HO := Lib.hid (logOfF_bad (all_bad HE.out hx))
        go_wp2_with fail
        (have hc := l27OkAt_any x b (off + k * 3) wr hxs c0 c1 c2)
        rw [hx] at hc
        refine hc.mono ?_
        rintro e w1 ⟨rfl, rfl⟩
        clear c0 c1 c2 hc hx
        go_wp2
        go_ret2
        rw [HO.out]
        exact ⟨rfl, HB.out⟩
      · have HO := Lib.hid hx
        go_wp2_with fail
        (have hc := l27OkAt_any x b (off + k * 3) wr hxs c0 c1 c2)
        rw [hx] at hc
        refine hc.mono ?_
        rintro e w1 ⟨rfl, rfl⟩
        clear c0 c1 c2 hc hx
        go_wp2
        go_roundw
        case rel => exact ⟨k + 1, by omega, by go_num, HA.out.step HE.out HO.out, HB.out⟩
        case measure => simp [RowKit.intOf]; omega
    · obtain rfl : k = n := by omega
      have HALL := Lib.hid (show l.all okEn = true from HA.out.done hl.out)
      have HB0 := Lib.hid hbel
      have hkk0 : ¬ ((k : Int) < (k : Int)) := by omega
      clear hbel HB HA
      obtain ⟨k0, hk0⟩ : ∃ y, y = k := ⟨_, rfl⟩
      subst hk0
      go_wp2
      go_loopw [5] (fun i wr => ∃ k : Nat, 1 ≤ k ∧ (k ≤ k0 ∨ k = 1) ∧ i = .int .i64 k ∧ (∀ j a b, j + 1 < k → l[j]? = some a → l[j + 1]? = some b → a.day ≤ b.day) ∧ Below w.heap.size w wr) (fun i _ => k0 - (RowKit.intOf i).toNat)
      case atStart => exact ⟨1, Nat.le_refl _, .inr rfl, rfl, fun j a b hj => by omega, HB0.out⟩
      case round =>
        obtain ⟨k, hk1, hkn, rfl, hup, hbel⟩ := hrel
        have HU := Lib.hid hup
        have HB := Lib.hid hbel
        clear hup
        by_cases hlt : k < k0
        · obtain ⟨j, rfl⟩ : ∃ j, k = j + 1 := ⟨k - 1, by omega⟩
          obtain ⟨x, b, off, he, rfl, hb, c0, c1, c2⟩ := en_at (k := j + 1) (h.on hB hbel) hlt
          obtain ⟨y, b', off', hy, e2, hb', d0, d1, d2⟩ := en_at (k := j) (h.on hB hbel) (by omega)
          injection e2 with e2; injection e2 with e2 e2'; subst e2; subst e2'
          have hj0 : (0 : Int) ≤ j := by omega
          have hj1 : (j : Int) < k0 := by omega
          have hj2 : (j : Int) + 1 < k0 := by omega
          have hj3 : (0 : Int) ≤ (j : Int) + 1 := by omega
          have hjw : IntKind.i64.wrap (j : Int) = j := by
            unfold IntKind.wrap; simp [IntKind.bits, IntKind.signed]; omega
          have hjw2 : IntKind.i64.wrap ((j : Int) + 1) = (j : Int) + 1 := by
            unfold IntKind.wrap; simp [IntKind.bits, IntKind.signed]; omega
          have hjt : ((j : Int) + 1).toNat = j + 1 := by omega
          have HE := Lib.hid he
          have HY := Lib.hid hy
          clear he hy c1 c2 d1 d2 hbel hkn
          by_cases hd : y.day ≤ x.day
          · have hg : decide (x.day < y.day) = false := decide_eq_false (by omega)
            have HD := Lib.hid hd
            clear hd
            go_wp2_with fail
            refine wp_region_held_drew (S := (fun W => Below w.heap.size w W ∧ W.cell? ⟨b, off + (j + 1) * 3, none⟩ = some (.int .i64 x.day) ∧ W.cell? ⟨b, off + j * 3, none⟩ = some (.int .i64 y.day))) (by kernel_rfl) ?_ (fun hHeld => ?_)
            · exact ⟨HB.out.drew, c0, d0⟩
            refine wpAnyH_take (i := 0) (v := ?_) rfl (by kernel_rfl) (by kernel_rfl) (by kernel_rfl) (fun _ _ _ h => h) (Or.inl ⟨by kernel_rfl, ?_⟩) (by assumption) ?_
            rotate_left 1
            · intro w hSw; (try dsimp only at hSw); go_simp; try with_reducible rfl
            try simp only [Act.put, List.getElem_toArray, List.getElem_cons_succ, List.getElem_cons_zero, List.setIfInBounds_toArray, List.set_cons_zero, List.set_cons_succ]
            refine wpAnyH_take (i := 1) (v := ?_) rfl (by kernel_rfl) (by kernel_rfl) (by kernel_rfl) (fun _ _ _ h => h) (Or.inl ⟨by kernel_rfl, ?_⟩) (by assumption) ?_
            rotate_left 1
            · intro w hSw; (try dsimp only at hSw); go_simp; try with_reducible rfl
            try simp only [Act.put, List.getElem_toArray, List.getElem_cons_succ, List.getElem_cons_zero, List.setIfInBounds_toArray, List.set_cons_zero, List.set_cons_succ]
            refine wpAnyH_take (i := 2) (v := ?_) rfl (by kernel_rfl) (by kernel_rfl) (by kernel_rfl) (fun _ _ _ h => h) (Or.inl ⟨by kernel_rfl, ?_⟩) (by assumption) ?_
            rotate_left 1
            · intro w hSw; (try dsimp only at hSw); go_simp; try with_reducible rfl
            try simp only [Act.put, List.getElem_toArray, List.getElem_cons_succ, List.getElem_cons_zero, List.setIfInBounds_toArray, List.set_cons_zero, List.set_cons_succ]
            refine wpAnyH_take (i := 3) (v := ?_) rfl (by kernel_rfl) (by kernel_rfl) (by kernel_rfl) (fun _ _ _ h => h) (Or.inl ⟨by kernel_rfl, ?_⟩) (by assumption) ?_
            rotate_left 1
            · intro w hSw; (try dsimp only at hSw); go_simp; try with_reducible rfl
            try simp only [Act.put, List.getElem_toArray, List.getElem_cons_succ, List.getElem_cons_zero, List.setIfInBounds_toArray, List.set_cons_zero, List.set_cons_succ]
            refine wpAnyH_take (i := 4) (v := ?_) rfl (by kernel_rfl) (by kernel_rfl) (by kernel_rfl) (fun _ _ _ h => h) (Or.inl ⟨by kernel_rfl, ?_⟩) (by assumption) ?_
            rotate_left 1
            · intro w hSw; (try dsimp only at hSw); (have e0 := hSw.2.1); (have e1 := hSw.2.2); go_simp; try with_reducible rfl
            try simp only [Act.put, List.getElem_toArray, List.getElem_cons_succ, List.getElem_cons_zero, List.setIfInBounds_toArray, List.set_cons_zero, List.set_cons_succ]
            refine wpAnyH_take (i := 5) (v := ?_) rfl (by kernel_rfl) (by kernel_rfl) (by kernel_rfl) (fun _ _ _ h => h) (Or.inl ⟨by kernel_rfl, ?_⟩) (by assumption) ?_
            rotate_left 1
            · intro w hSw; (try dsimp only at hSw); go_simp; try with_reducible rfl
            try simp only [Act.put, List.getElem_toArray, List.getElem_cons_succ, List.getElem_cons_zero, List.setIfInBounds_toArray, List.set_cons_zero, List.set_cons_succ]
            refine wpAnyH_take (i := 6) (v := ?_) rfl (by kernel_rfl) (by kernel_rfl) (by kernel_rfl) (fun _ _ _ h => h) (Or.inl ⟨by kernel_rfl, ?_⟩) (by assumption) ?_
            rotate_left 1
            · intro w hSw; (try dsimp only at hSw); go_simp; try with_reducible rfl
            try simp only [Act.put, List.getElem_toArray, List.getElem_cons_succ, List.getElem_cons_zero, List.setIfInBounds_toArray, List.set_cons_zero, List.set_cons_succ]
            refine wpAnyH_take (i := 7) (v := ?_) rfl (by kernel_rfl) (by kernel_rfl) (by kernel_rfl) (fun _ _ _ h => h) (Or.inl ⟨by kernel_rfl, ?_⟩) (by assumption) ?_
            rotate_left 1
            · intro w hSw; (try dsimp only at hSw); go_simp; try with_reducible rfl
            try simp only [Act.put, List.getElem_toArray, List.getElem_cons_succ, List.getElem_cons_zero, List.setIfInBounds_toArray, List.set_cons_zero, List.set_cons_succ]
            refine wpAnyH_take (i := 8) (v := ?_) rfl (by kernel_rfl) (by kernel_rfl) (by kernel_rfl) (fun _ _ _ h => h) (Or.inl ⟨by kernel_rfl, ?_⟩) (by assumption) ?_
            rotate_left 1
            · intro w hSw; (try dsimp only at hSw); go_simp; try with_reducible rfl
            try simp only [Act.put, List.getElem_toArray, List.getElem_cons_succ, List.getElem_cons_zero, List.setIfInBounds_toArray, List.set_cons_zero, List.set_cons_succ]
            refine wpAnyH_take (i := 9) (v := ?_) rfl (by kernel_rfl) (by kernel_rfl) (by kernel_rfl) (fun _ _ _ h => h) (Or.inl ⟨by kernel_rfl, ?_⟩) (by assumption) ?_
            rotate_left 1
            · intro w hSw; (try dsimp only at hSw); go_simp; try with_reducible rfl
            try simp only [Act.put, List.getElem_toArray, List.getElem_cons_succ, List.getElem_cons_zero, List.setIfInBounds_toArray, List.set_cons_zero, List.set_cons_succ]
            refine wpAnyH_take (i := 10) (v := ?_) rfl (by kernel_rfl) (by kernel_rfl) (by kernel_rfl) (fun _ _ _ h => h) (Or.inl ⟨by kernel_rfl, ?_⟩) (by assumption) ?_
            rotate_left 1
            · intro w hSw; (try dsimp only at hSw); (have e0 := hSw.2.1); (have e1 := hSw.2.2); go_simp; try with_reducible rfl
            try simp only [Act.put, List.getElem_toArray, List.getElem_cons_succ, List.getElem_cons_zero, List.setIfInBounds_toArray, List.set_cons_zero, List.set_cons_succ]
            refine wpAnyH_take (i := 11) (v := ?_) rfl (by kernel_rfl) (by kernel_rfl) (by kernel_rfl) (fun _ _ _ h => h) (Or.inl ⟨by kernel_rfl, ?_⟩) (by assumption) ?_
            rotate_left 1
            · intro w hSw; (try dsimp only at hSw); go_simp; try with_reducible rfl
            try simp only [Act.put, List.getElem_toArray, List.getElem_cons_succ, List.getElem_cons_zero, List.setIfInBounds_toArray, List.set_cons_zero, List.set_cons_succ]
            refine wpAnyH_done (by kernel_rfl) ?_ _
            have HF := Lib.hid hHeld.1
            clear hHeld c0 d0
            go_wp2
            go_roundw
            case rel =>
              refine ⟨j + 1 + 1, by omega, .inl (by omega), by go_num, fun q a b hq ha hb => ?_, HF.out⟩
              by_cases hqj : q = j
              · subst hqj
                have h1 := HY.out
                have h2 := HE.out
                rw [h1] at ha
                rw [h2] at hb
                injection ha with ha
                injection hb with hb
                subst ha hb
                exact HD.out
              · exact HU.out q a b (by omega) ha hb
            case measure => simp [RowKit.intOf]; omega
          · have hg : decide (x.day < y.day) = true := decide_eq_true (by omega)
            have HO := Lib.hid (logOfF_days HALL.out (daysUp_bad HY.out HE.out (by omega)))
            clear hd
            go_wp2_with fail
            refine wp_region_held_drew (S := (fun W => Below w.heap.size w W ∧ W.cell? ⟨b, off + (j + 1) * 3, none⟩ = some (.int .i64 x.day) ∧ W.cell? ⟨b, off + j * 3, none⟩ = some (.int .i64 y.day))) (by kernel_rfl) ?_ (fun hHeld => ?_)
            · exact ⟨HB.out.drew, c0, d0⟩
            refine wpAnyH_take (i := 0) (v := ?_) rfl (by kernel_rfl) (by kernel_rfl) (by kernel_rfl) (fun _ _ _ h => h) (Or.inl ⟨by kernel_rfl, ?_⟩) (by assumption) ?_
            rotate_left 1
            · intro w hSw; (try dsimp only at hSw); go_simp; try with_reducible rfl
            try simp only [Act.put, List.getElem_toArray, List.getElem_cons_succ, List.getElem_cons_zero, List.setIfInBounds_toArray, List.set_cons_zero, List.set_cons_succ]
            refine wpAnyH_take (i := 1) (v := ?_) rfl (by kernel_rfl) (by kernel_rfl) (by kernel_rfl) (fun _ _ _ h => h) (Or.inl ⟨by kernel_rfl, ?_⟩) (by assumption) ?_
            rotate_left 1
            · intro w hSw; (try dsimp only at hSw); go_simp; try with_reducible rfl
            try simp only [Act.put, List.getElem_toArray, List.getElem_cons_succ, List.getElem_cons_zero, List.setIfInBounds_toArray, List.set_cons_zero, List.set_cons_succ]
            refine wpAnyH_take (i := 2) (v := ?_) rfl (by kernel_rfl) (by kernel_rfl) (by kernel_rfl) (fun _ _ _ h => h) (Or.inl ⟨by kernel_rfl, ?_⟩) (by assumption) ?_
            rotate_left 1
            · intro w hSw; (try dsimp only at hSw); go_simp; try with_reducible rfl
            try simp only [Act.put, List.getElem_toArray, List.getElem_cons_succ, List.getElem_cons_zero, List.setIfInBounds_toArray, List.set_cons_zero, List.set_cons_succ]
            refine wpAnyH_take (i := 3) (v := ?_) rfl (by kernel_rfl) (by kernel_rfl) (by kernel_rfl) (fun _ _ _ h => h) (Or.inl ⟨by kernel_rfl, ?_⟩) (by assumption) ?_
            rotate_left 1
            · intro w hSw; (try dsimp only at hSw); go_simp; try with_reducible rfl
            try simp only [Act.put, List.getElem_toArray, List.getElem_cons_succ, List.getElem_cons_zero, List.setIfInBounds_toArray, List.set_cons_zero, List.set_cons_succ]
            refine wpAnyH_take (i := 4) (v := ?_) rfl (by kernel_rfl) (by kernel_rfl) (by kernel_rfl) (fun _ _ _ h => h) (Or.inl ⟨by kernel_rfl, ?_⟩) (by assumption) ?_
            rotate_left 1
            · intro w hSw; (try dsimp only at hSw); (have e0 := hSw.2.1); (have e1 := hSw.2.2); go_simp; try with_reducible rfl
            try simp only [Act.put, List.getElem_toArray, List.getElem_cons_succ, List.getElem_cons_zero, List.setIfInBounds_toArray, List.set_cons_zero, List.set_cons_succ]
            refine wpAnyH_take (i := 5) (v := ?_) rfl (by kernel_rfl) (by kernel_rfl) (by kernel_rfl) (fun _ _ _ h => h) (Or.inl ⟨by kernel_rfl, ?_⟩) (by assumption) ?_
            rotate_left 1
            · intro w hSw; (try dsimp only at hSw); go_simp; try with_reducible rfl
            try simp only [Act.put, List.getElem_toArray, List.getElem_cons_succ, List.getElem_cons_zero, List.setIfInBounds_toArray, List.set_cons_zero, List.set_cons_succ]
            refine wpAnyH_take (i := 6) (v := ?_) rfl (by kernel_rfl) (by kernel_rfl) (by kernel_rfl) (fun _ _ _ h => h) (Or.inl ⟨by kernel_rfl, ?_⟩) (by assumption) ?_
            rotate_left 1
            · intro w hSw; (try dsimp only at hSw); go_simp; try with_reducible rfl
            try simp only [Act.put, List.getElem_toArray, List.getElem_cons_succ, List.getElem_cons_zero, List.setIfInBounds_toArray, List.set_cons_zero, List.set_cons_succ]
            refine wpAnyH_take (i := 7) (v := ?_) rfl (by kernel_rfl) (by kernel_rfl) (by kernel_rfl) (fun _ _ _ h => h) (Or.inl ⟨by kernel_rfl, ?_⟩) (by assumption) ?_
            rotate_left 1
            · intro w hSw; (try dsimp only at hSw); go_simp; try with_reducible rfl
            try simp only [Act.put, List.getElem_toArray, List.getElem_cons_succ, List.getElem_cons_zero, List.setIfInBounds_toArray, List.set_cons_zero, List.set_cons_succ]
            refine wpAnyH_take (i := 8) (v := ?_) rfl (by kernel_rfl) (by kernel_rfl) (by kernel_rfl) (fun _ _ _ h => h) (Or.inl ⟨by kernel_rfl, ?_⟩) (by assumption) ?_
            rotate_left 1
            · intro w hSw; (try dsimp only at hSw); go_simp; try with_reducible rfl
            try simp only [Act.put, List.getElem_toArray, List.getElem_cons_succ, List.getElem_cons_zero, List.setIfInBounds_toArray, List.set_cons_zero, List.set_cons_succ]
            refine wpAnyH_take (i := 9) (v := ?_) rfl (by kernel_rfl) (by kernel_rfl) (by kernel_rfl) (fun _ _ _ h => h) (Or.inl ⟨by kernel_rfl, ?_⟩) (by assumption) ?_
            rotate_left 1
            · intro w hSw; (try dsimp only at hSw); go_simp; try with_reducible rfl
            try simp only [Act.put, List.getElem_toArray, List.getElem_cons_succ, List.getElem_cons_zero, List.setIfInBounds_toArray, List.set_cons_zero, List.set_cons_succ]
            refine wpAnyH_take (i := 10) (v := ?_) rfl (by kernel_rfl) (by kernel_rfl) (by kernel_rfl) (fun _ _ _ h => h) (Or.inl ⟨by kernel_rfl, ?_⟩) (by assumption) ?_
            rotate_left 1
            · intro w hSw; (try dsimp only at hSw); (have e0 := hSw.2.1); (have e1 := hSw.2.2); go_simp; try with_reducible rfl
            try simp only [Act.put, List.getElem_toArray, List.getElem_cons_succ, List.getElem_cons_zero, List.setIfInBounds_toArray, List.set_cons_zero, List.set_cons_succ]
            refine wpAnyH_take (i := 11) (v := ?_) rfl (by kernel_rfl) (by kernel_rfl) (by kernel_rfl) (fun _ _ _ h => h) (Or.inl ⟨by kernel_rfl, ?_⟩) (by assumption) ?_
            rotate_left 1
            · intro w hSw; (try dsimp only at hSw); go_simp; try with_reducible rfl
            try simp only [Act.put, List.getElem_toArray, List.getElem_cons_succ, List.getElem_cons_zero, List.setIfInBounds_toArray, List.set_cons_zero, List.set_cons_succ]
            refine wpAnyH_done (by kernel_rfl) ?_ _
            have HF := Lib.hid hHeld.1
            clear hHeld c0 d0
            go_wp2
            go_ret2
            rw [HO.out]
            exact ⟨rfl, HF.out⟩
        · have hkk : ¬ ((k : Int) < (k0 : Int)) := by omega
          have HUP := Lib.hid (show daysUp l = true from daysTo_ok hl.out fun j a b hj ha hb => HU.out j a b (by omega) ha hb)
          clear hbel hkn
          go_wp2_with fail
          refine (l27Make_any A k0 c l B _ (h.on hB HB.out) (by have := HB.out.size; omega) hn (fun x hx => List.all_eq_true.1 HALL.out x hx)).mono ?_
          rintro e w2 ⟨rfl, b2⟩
          have HF := Lib.hid (bnext HB.out b2 (Nat.le_refl _))
          have HO1 := Lib.hid (fun q => logOfF_full HALL.out HUP.out q)
          have HO2 := Lib.hid (fun q => logOfF_ok HALL.out HUP.out q)
          rw [hl.out] at HO1 HO2
          clear b2
          obtain ⟨lg, hlg⟩ : ∃ y, logTo l k0 = y := ⟨_, rfl⟩
          rw [hlg] at HO1 HO2 ⊢
          clear hlg
          by_cases hfl : 4000 < lg.size
          · have hfi : (4000 : Int) < (lg.size : Int) := by omega
            have HO := Lib.hid (HO1.out hfl)
            go_wp2
            go_ret2
            rw [HO.out]
            exact ⟨rfl, HF.out⟩
          · have hfi : ¬ ((4000 : Int) < (lg.size : Int)) := by omega
            have HO := Lib.hid (HO2.out hfl)
            go_wp2
            go_ret2
            rw [HO.out]
            exact ⟨rfl, HF.out⟩
set_option maxHeartbeats 4000000 in
set_option maxRecDepth 100000 in
theorem implLogOf_any (A : Option Addr) (n c : Nat) (l : List En) (B : Nat) (w : World) (h : Reads w B 3 A n (ens l)) (hB : B ≤ w.heap.size) (hn : n ≤ 1048576) (hsm : ∀ x ∈ l, x.small) (hgd : ∀ x ∈ l, x.good) (ht : TabP w) :
    Calls Tryd.prog 19 #[.slice A n c] w fun e w' => e = .returned (.tuple #[.string (logOfF l).1, .int .i64 (logOfF l).2]) ∧ Below w.heap.size w w' := by
  have hl := Lib.hid (ens_len h)
  have HT := Lib.hid ht
  have HC := Lib.hid (containsFuncEn_any A n c l B w h hB hn hsm hgd)
  clear hsm hgd ht
  rcases hall : l.all okEn with _ | _
  · have HO := Lib.hid (logOfF_bad hall)
    rw [hall] at HC
    clear hall
    go_enter Tryd.func19, Tryd.ntmps19
    go_wp2_with fail
    refine HC.out.mono ?_
    rintro e w1 ⟨rfl, b1⟩
    have HF := Lib.hid b1
    clear b1
    go_wp2
    go_ret2
    rw [HO.out]
    exact ⟨rfl, HF.out⟩
  · have HALL := Lib.hid hall
    rw [hall] at HC
    clear hall
    go_enter Tryd.func19, Tryd.ntmps19
    go_wp2_with fail
    refine HC.out.mono ?_
    rintro e w1 ⟨rfl, b1⟩
    have HB0 := Lib.hid b1
    clear b1
    go_wp2
    go_loopw [4] (fun i wr => ∃ k : Nat, 1 ≤ k ∧ (k ≤ n ∨ k = 1) ∧ i = .int .i64 k ∧ (∀ j a b, j + 1 < k → l[j]? = some a → l[j + 1]? = some b → a.day ≤ b.day) ∧ Below w.heap.size w wr) (fun i _ => n - (RowKit.intOf i).toNat)
    case atStart => exact ⟨1, Nat.le_refl _, .inr rfl, rfl, fun j a b hj => by omega, HB0.out⟩
    case round =>
      obtain ⟨k, hk1, hkn, rfl, hup, hbel⟩ := hrel
      have HU := Lib.hid hup
      have HB := Lib.hid hbel
      clear hup
      by_cases hlt : k < n
      · obtain ⟨j, rfl⟩ : ∃ j, k = j + 1 := ⟨k - 1, by omega⟩
        obtain ⟨x, b, off, he, rfl, hb, c0, c1, c2⟩ := en_at (k := j + 1) (h.on hB hbel) hlt
        obtain ⟨y, b', off', hy, e2, hb', d0, d1, d2⟩ := en_at (k := j) (h.on hB hbel) (by omega)
        injection e2 with e2; injection e2 with e2 e2'; subst e2; subst e2'
        have hj0 : (0 : Int) ≤ j := by omega
        have hj1 : (j : Int) < n := by omega
        have hj2 : (j : Int) + 1 < n := by omega
        have hj3 : (0 : Int) ≤ (j : Int) + 1 := by omega
        have hjw : IntKind.i64.wrap (j : Int) = j := by
          unfold IntKind.wrap; simp [IntKind.bits, IntKind.signed]; omega
        have hjw2 : IntKind.i64.wrap ((j : Int) + 1) = (j : Int) + 1 := by
          unfold IntKind.wrap; simp [IntKind.bits, IntKind.signed]; omega
        have hjt : ((j : Int) + 1).toNat = j + 1 := by omega
        have HE := Lib.hid he
        have HY := Lib.hid hy
        clear he hy c1 c2 d1 d2 hbel hkn
        by_cases hd : y.day ≤ x.day
        · have hg : decide (x.day < y.day) = false := decide_eq_false (by omega)
          have HD := Lib.hid hd
          clear hd
          go_wp2_with fail
          refine wp_region_held_drew (S := (fun W => Below w.heap.size w W ∧ W.cell? ⟨b, off + (j + 1) * 3, none⟩ = some (.int .i64 x.day) ∧ W.cell? ⟨b, off + j * 3, none⟩ = some (.int .i64 y.day))) (by kernel_rfl) ?_ (fun hHeld => ?_)
          · exact ⟨HB.out.drew, c0, d0⟩
          refine wpAnyH_take (i := 0) (v := ?_) rfl (by kernel_rfl) (by kernel_rfl) (by kernel_rfl) (fun _ _ _ h => h) (Or.inl ⟨by kernel_rfl, ?_⟩) (by assumption) ?_
          rotate_left 1
          · intro w hSw; (try dsimp only at hSw); go_simp; try with_reducible rfl
          try simp only [Act.put, List.getElem_toArray, List.getElem_cons_succ, List.getElem_cons_zero, List.setIfInBounds_toArray, List.set_cons_zero, List.set_cons_succ]
          refine wpAnyH_take (i := 1) (v := ?_) rfl (by kernel_rfl) (by kernel_rfl) (by kernel_rfl) (fun _ _ _ h => h) (Or.inl ⟨by kernel_rfl, ?_⟩) (by assumption) ?_
          rotate_left 1
          · intro w hSw; (try dsimp only at hSw); go_simp; try with_reducible rfl
          try simp only [Act.put, List.getElem_toArray, List.getElem_cons_succ, List.getElem_cons_zero, List.setIfInBounds_toArray, List.set_cons_zero, List.set_cons_succ]
          refine wpAnyH_take (i := 2) (v := ?_) rfl (by kernel_rfl) (by kernel_rfl) (by kernel_rfl) (fun _ _ _ h => h) (Or.inl ⟨by kernel_rfl, ?_⟩) (by assumption) ?_
          rotate_left 1
          · intro w hSw; (try dsimp only at hSw); go_simp; try with_reducible rfl
          try simp only [Act.put, List.getElem_toArray, List.getElem_cons_succ, List.getElem_cons_zero, List.setIfInBounds_toArray, List.set_cons_zero, List.set_cons_succ]
          refine wpAnyH_take (i := 3) (v := ?_) rfl (by kernel_rfl) (by kernel_rfl) (by kernel_rfl) (fun _ _ _ h => h) (Or.inl ⟨by kernel_rfl, ?_⟩) (by assumption) ?_
          rotate_left 1
          · intro w hSw; (try dsimp only at hSw); go_simp; try with_reducible rfl
          try simp only [Act.put, List.getElem_toArray, List.getElem_cons_succ, List.getElem_cons_zero, List.setIfInBounds_toArray, List.set_cons_zero, List.set_cons_succ]
          refine wpAnyH_take (i := 4) (v := ?_) rfl (by kernel_rfl) (by kernel_rfl) (by kernel_rfl) (fun _ _ _ h => h) (Or.inl ⟨by kernel_rfl, ?_⟩) (by assumption) ?_
          rotate_left 1
          · intro w hSw; (try dsimp only at hSw); go_simp; try with_reducible rfl
          try simp only [Act.put, List.getElem_toArray, List.getElem_cons_succ, List.getElem_cons_zero, List.setIfInBounds_toArray, List.set_cons_zero, List.set_cons_succ]
          refine wpAnyH_take (i := 5) (v := ?_) rfl (by kernel_rfl) (by kernel_rfl) (by kernel_rfl) (fun _ _ _ h => h) (Or.inl ⟨by kernel_rfl, ?_⟩) (by assumption) ?_
          rotate_left 1
          · intro w hSw; (try dsimp only at hSw); (have e0 := hSw.2.1); (have e1 := hSw.2.2); go_simp; try with_reducible rfl
          try simp only [Act.put, List.getElem_toArray, List.getElem_cons_succ, List.getElem_cons_zero, List.setIfInBounds_toArray, List.set_cons_zero, List.set_cons_succ]
          refine wpAnyH_take (i := 6) (v := ?_) rfl (by kernel_rfl) (by kernel_rfl) (by kernel_rfl) (fun _ _ _ h => h) (Or.inl ⟨by kernel_rfl, ?_⟩) (by assumption) ?_
          rotate_left 1
          · intro w hSw; (try dsimp only at hSw); go_simp; try with_reducible rfl
          try simp only [Act.put, List.getElem_toArray, List.getElem_cons_succ, List.getElem_cons_zero, List.setIfInBounds_toArray, List.set_cons_zero, List.set_cons_succ]
          refine wpAnyH_take (i := 7) (v := ?_) rfl (by kernel_rfl) (by kernel_rfl) (by kernel_rfl) (fun _ _ _ h => h) (Or.inl ⟨by kernel_rfl, ?_⟩) (by assumption) ?_
          rotate_left 1
          · intro w hSw; (try dsimp only at hSw); go_simp; try with_reducible rfl
          try simp only [Act.put, List.getElem_toArray, List.getElem_cons_succ, List.getElem_cons_zero, List.setIfInBounds_toArray, List.set_cons_zero, List.set_cons_succ]
          refine wpAnyH_take (i := 8) (v := ?_) rfl (by kernel_rfl) (by kernel_rfl) (by kernel_rfl) (fun _ _ _ h => h) (Or.inl ⟨by kernel_rfl, ?_⟩) (by assumption) ?_
          rotate_left 1
          · intro w hSw; (try dsimp only at hSw); go_simp; try with_reducible rfl
          try simp only [Act.put, List.getElem_toArray, List.getElem_cons_succ, List.getElem_cons_zero, List.setIfInBounds_toArray, List.set_cons_zero, List.set_cons_succ]
          refine wpAnyH_take (i := 9) (v := ?_) rfl (by kernel_rfl) (by kernel_rfl) (by kernel_rfl) (fun _ _ _ h => h) (Or.inl ⟨by kernel_rfl, ?_⟩) (by assumption) ?_
          rotate_left 1
          · intro w hSw; (try dsimp only at hSw); go_simp; try with_reducible rfl
          try simp only [Act.put, List.getElem_toArray, List.getElem_cons_succ, List.getElem_cons_zero, List.setIfInBounds_toArray, List.set_cons_zero, List.set_cons_succ]
          refine wpAnyH_take (i := 10) (v := ?_) rfl (by kernel_rfl) (by kernel_rfl) (by kernel_rfl) (fun _ _ _ h => h) (Or.inl ⟨by kernel_rfl, ?_⟩) (by assumption) ?_
          rotate_left 1
          · intro w hSw; (try dsimp only at hSw); (have e0 := hSw.2.1); (have e1 := hSw.2.2); go_simp; try with_reducible rfl
          try simp only [Act.put, List.getElem_toArray, List.getElem_cons_succ, List.getElem_cons_zero, List.setIfInBounds_toArray, List.set_cons_zero, List.set_cons_succ]
          refine wpAnyH_take (i := 11) (v := ?_) rfl (by kernel_rfl) (by kernel_rfl) (by kernel_rfl) (fun _ _ _ h => h) (Or.inl ⟨by kernel_rfl, ?_⟩) (by assumption) ?_
          rotate_left 1
          · intro w hSw; (try dsimp only at hSw); go_simp; try with_reducible rfl
          try simp only [Act.put, List.getElem_toArray, List.getElem_cons_succ, List.getElem_cons_zero, List.setIfInBounds_toArray, List.set_cons_zero, List.set_cons_succ]
          refine wpAnyH_done (by kernel_rfl) ?_ _
          have HF := Lib.hid hHeld.1
          clear hHeld c0 d0
          go_wp2
          go_roundw
          case rel =>
            refine ⟨j + 1 + 1, by omega, .inl (by omega), by go_num, fun q a b hq ha hb => ?_, HF.out⟩
            by_cases hqj : q = j
            · subst hqj
              have h1 := HY.out
              have h2 := HE.out
              rw [h1] at ha
              rw [h2] at hb
              injection ha with ha
              injection hb with hb
              subst ha hb
              exact HD.out
            · exact HU.out q a b (by omega) ha hb
          case measure => simp [RowKit.intOf]; omega
        · have hg : decide (x.day < y.day) = true := decide_eq_true (by omega)
          have HO := Lib.hid (logOfF_days HALL.out (daysUp_bad HY.out HE.out (by omega)))
          clear hd
          go_wp2_with fail
          refine wp_region_held_drew (S := (fun W => Below w.heap.size w W ∧ W.cell? ⟨b, off + (j + 1) * 3, none⟩ = some (.int .i64 x.day) ∧ W.cell? ⟨b, off + j * 3, none⟩ = some (.int .i64 y.day))) (by kernel_rfl) ?_ (fun hHeld => ?_)
          · exact ⟨HB.out.drew, c0, d0⟩
          refine wpAnyH_take (i := 0) (v := ?_) rfl (by kernel_rfl) (by kernel_rfl) (by kernel_rfl) (fun _ _ _ h => h) (Or.inl ⟨by kernel_rfl, ?_⟩) (by assumption) ?_
          rotate_left 1
          · intro w hSw; (try dsimp only at hSw); go_simp; try with_reducible rfl
          try simp only [Act.put, List.getElem_toArray, List.getElem_cons_succ, List.getElem_cons_zero, List.setIfInBounds_toArray, List.set_cons_zero, List.set_cons_succ]
          refine wpAnyH_take (i := 1) (v := ?_) rfl (by kernel_rfl) (by kernel_rfl) (by kernel_rfl) (fun _ _ _ h => h) (Or.inl ⟨by kernel_rfl, ?_⟩) (by assumption) ?_
          rotate_left 1
          · intro w hSw; (try dsimp only at hSw); go_simp; try with_reducible rfl
          try simp only [Act.put, List.getElem_toArray, List.getElem_cons_succ, List.getElem_cons_zero, List.setIfInBounds_toArray, List.set_cons_zero, List.set_cons_succ]
          refine wpAnyH_take (i := 2) (v := ?_) rfl (by kernel_rfl) (by kernel_rfl) (by kernel_rfl) (fun _ _ _ h => h) (Or.inl ⟨by kernel_rfl, ?_⟩) (by assumption) ?_
          rotate_left 1
          · intro w hSw; (try dsimp only at hSw); go_simp; try with_reducible rfl
          try simp only [Act.put, List.getElem_toArray, List.getElem_cons_succ, List.getElem_cons_zero, List.setIfInBounds_toArray, List.set_cons_zero, List.set_cons_succ]
          refine wpAnyH_take (i := 3) (v := ?_) rfl (by kernel_rfl) (by kernel_rfl) (by kernel_rfl) (fun _ _ _ h => h) (Or.inl ⟨by kernel_rfl, ?_⟩) (by assumption) ?_
          rotate_left 1
          · intro w hSw; (try dsimp only at hSw); go_simp; try with_reducible rfl
          try simp only [Act.put, List.getElem_toArray, List.getElem_cons_succ, List.getElem_cons_zero, List.setIfInBounds_toArray, List.set_cons_zero, List.set_cons_succ]
          refine wpAnyH_take (i := 4) (v := ?_) rfl (by kernel_rfl) (by kernel_rfl) (by kernel_rfl) (fun _ _ _ h => h) (Or.inl ⟨by kernel_rfl, ?_⟩) (by assumption) ?_
          rotate_left 1
          · intro w hSw; (try dsimp only at hSw); go_simp; try with_reducible rfl
          try simp only [Act.put, List.getElem_toArray, List.getElem_cons_succ, List.getElem_cons_zero, List.setIfInBounds_toArray, List.set_cons_zero, List.set_cons_succ]
          refine wpAnyH_take (i := 5) (v := ?_) rfl (by kernel_rfl) (by kernel_rfl) (by kernel_rfl) (fun _ _ _ h => h) (Or.inl ⟨by kernel_rfl, ?_⟩) (by assumption) ?_
          rotate_left 1
          · intro w hSw; (try dsimp only at hSw); (have e0 := hSw.2.1); (have e1 := hSw.2.2); go_simp; try with_reducible rfl
          try simp only [Act.put, List.getElem_toArray, List.getElem_cons_succ, List.getElem_cons_zero, List.setIfInBounds_toArray, List.set_cons_zero, List.set_cons_succ]
          refine wpAnyH_take (i := 6) (v := ?_) rfl (by kernel_rfl) (by kernel_rfl) (by kernel_rfl) (fun _ _ _ h => h) (Or.inl ⟨by kernel_rfl, ?_⟩) (by assumption) ?_
          rotate_left 1
          · intro w hSw; (try dsimp only at hSw); go_simp; try with_reducible rfl
          try simp only [Act.put, List.getElem_toArray, List.getElem_cons_succ, List.getElem_cons_zero, List.setIfInBounds_toArray, List.set_cons_zero, List.set_cons_succ]
          refine wpAnyH_take (i := 7) (v := ?_) rfl (by kernel_rfl) (by kernel_rfl) (by kernel_rfl) (fun _ _ _ h => h) (Or.inl ⟨by kernel_rfl, ?_⟩) (by assumption) ?_
          rotate_left 1
          · intro w hSw; (try dsimp only at hSw); go_simp; try with_reducible rfl
          try simp only [Act.put, List.getElem_toArray, List.getElem_cons_succ, List.getElem_cons_zero, List.setIfInBounds_toArray, List.set_cons_zero, List.set_cons_succ]
          refine wpAnyH_take (i := 8) (v := ?_) rfl (by kernel_rfl) (by kernel_rfl) (by kernel_rfl) (fun _ _ _ h => h) (Or.inl ⟨by kernel_rfl, ?_⟩) (by assumption) ?_
          rotate_left 1
          · intro w hSw; (try dsimp only at hSw); go_simp; try with_reducible rfl
          try simp only [Act.put, List.getElem_toArray, List.getElem_cons_succ, List.getElem_cons_zero, List.setIfInBounds_toArray, List.set_cons_zero, List.set_cons_succ]
          refine wpAnyH_take (i := 9) (v := ?_) rfl (by kernel_rfl) (by kernel_rfl) (by kernel_rfl) (fun _ _ _ h => h) (Or.inl ⟨by kernel_rfl, ?_⟩) (by assumption) ?_
          rotate_left 1
          · intro w hSw; (try dsimp only at hSw); go_simp; try with_reducible rfl
          try simp only [Act.put, List.getElem_toArray, List.getElem_cons_succ, List.getElem_cons_zero, List.setIfInBounds_toArray, List.set_cons_zero, List.set_cons_succ]
          refine wpAnyH_take (i := 10) (v := ?_) rfl (by kernel_rfl) (by kernel_rfl) (by kernel_rfl) (fun _ _ _ h => h) (Or.inl ⟨by kernel_rfl, ?_⟩) (by assumption) ?_
          rotate_left 1
          · intro w hSw; (try dsimp only at hSw); (have e0 := hSw.2.1); (have e1 := hSw.2.2); go_simp; try with_reducible rfl
          try simp only [Act.put, List.getElem_toArray, List.getElem_cons_succ, List.getElem_cons_zero, List.setIfInBounds_toArray, List.set_cons_zero, List.set_cons_succ]
          refine wpAnyH_take (i := 11) (v := ?_) rfl (by kernel_rfl) (by kernel_rfl) (by kernel_rfl) (fun _ _ _ h => h) (Or.inl ⟨by kernel_rfl, ?_⟩) (by assumption) ?_
          rotate_left 1
          · intro w hSw; (try dsimp only at hSw); go_simp; try with_reducible rfl
          try simp only [Act.put, List.getElem_toArray, List.getElem_cons_succ, List.getElem_cons_zero, List.setIfInBounds_toArray, List.set_cons_zero, List.set_cons_succ]
          refine wpAnyH_done (by kernel_rfl) ?_ _
          have HF := Lib.hid hHeld.1
          clear hHeld c0 d0
          go_wp2
          go_ret2
          rw [HO.out]
          exact ⟨rfl, HF.out⟩
      · have hkk : ¬ ((k : Int) < (n : Int)) := by omega
        have HUP := Lib.hid (show daysUp l = true from daysTo_ok hl.out fun j a b hj ha hb => HU.out j a b (by omega) ha hb)
        clear hbel hkn
        go_wp2
        go_loopw [5, 6, 31] (fun out st i wr => ∃ k : Nat, k ≤ n ∧ i = .int .i64 k ∧ st = .int .i64 (stampAt l k) ∧ out = .string (logTo l k) ∧ (logTo l k).size ≤ 4000 ∧ Below w.heap.size w wr) (fun _ _ i _ => n - (RowKit.intOf i).toNat)
        case atStart => exact ⟨0, Nat.zero_le _, rfl, rfl, rfl, by simp [logTo, ByteArray.size], HB.out⟩
        case round =>
          obtain ⟨k, hk, rfl, rfl, rfl, hsz, hbel⟩ := hrel
          have HB3 := Lib.hid hbel
          have hbd := stampAt_bd l k
          by_cases hlt : k < n
          · obtain ⟨x, b, off, he, rfl, hb, c0, c1, c2⟩ := en_at (h.on hB hbel) hlt
            have hx : okEn x = true := List.all_eq_true.1 HALL.out x (List.mem_of_getElem? he)
            have hxg := okEn_good hx
            have hxs := okEn_small hx
            have hws := wordsB_small hx
            have HST := Lib.hid (stampAt_step he)
            have HLG := Lib.hid (logTo_step he)
            have hbd2 := stampAt_bd l (k + 1)
            have HMONO := Lib.hid (logTo_mono l (show k + 1 ≤ n by omega))
            have hi0 : (0 : Int) ≤ k := by omega
            have hi1 : (k : Int) < n := by omega
            obtain ⟨sk, hsk⟩ : ∃ y, stampAt l k = y := ⟨_, rfl⟩
            obtain ⟨lg, hlg⟩ : ∃ y, logTo l k = y := ⟨_, rfl⟩
            rw [hsk] at hbd HST ⊢
            rw [hlg] at hsz HLG ⊢
            clear he hx hsk hlg hbel
            go_wp2_with fail
            obtain ⟨wq, hwq⟩ : ∃ y, wr.alloc (.cells #[.int .i64 x.day, .string x.what, .int .i64 x.val] 41) = y := ⟨_, rfl⟩
            have bq : Below wr.heap.size wr wq := by rw [← hwq]; exact (Below.refl _ _).alloc (Nat.le_refl _) _
            have yx : Blk wq wr.heap.size 41 #[.int .i64 x.day, .string x.what, .int .i64 x.val] := by rw [← hwq]; exact Blk.new _ _ _
            rw [hwq]
            clear hwq
            have HBq := Lib.hid (bnext HB3.out bq (Nat.le_refl _))
            clear bq c0 c1 c2
            refine (stampOf_any sk x _ hxg hxs hbd.1 hbd.2 (tabUp HT.out HBq.out)).mono ?_
            rintro e w2 ⟨rfl, b2⟩
            have y2 := yx.on b2
            have HB4 := Lib.hid (bnext HBq.out b2 (Nat.le_refl _))
            rw [← HST.out]
            obtain ⟨sk2, hsk2⟩ : ∃ y, stampAt l (k + 1) = y := ⟨_, rfl⟩
            rw [hsk2] at hbd2 HST HLG ⊢
            have HK2 := Lib.hid hsk2
            clear hsk2 b2 yx
            have e0 : w2.cell? ⟨wr.heap.size, 0, none⟩ = some (.int .i64 x.day) := y2.cellAt 0 (by simp)
            have e1 : w2.cell? ⟨wr.heap.size, 1, none⟩ = some (.string x.what) := y2.cellAt 1 (by simp)
            have e2 : w2.cell? ⟨wr.heap.size, 2, none⟩ = some (.int .i64 x.val) := y2.cellAt 2 (by simp)
            clear y2
            go_wp2_with fail
            refine (entryWords_any x _ hxg hxs (tabUp HT.out HB4.out)).mono ?_
            rintro e w4 ⟨rfl, b4⟩
            have HB5 := Lib.hid (bnext HB4.out b4 (Nat.le_refl _))
            clear b4 e0 e1 e2
            have hs2 : (asBytes (itoa sk2)).size ≤ 20 := by rw [asBytes_size]; exact itoa_len (by omega) (by omega)
            have n1 : ¬ (9223372036854775807 < (wordsB x).size + 1) := by omega
            have n2 : ¬ (9223372036854775807 < (wordsB x).size + 1 + (asBytes (itoa sk2)).size) := by omega
            have n3 : ¬ (9223372036854775807 < (wordsB x).size + 1 + (asBytes (itoa sk2)).size + 1) := by omega
            have n4 : ¬ (9223372036854775807 < lg.size + ((wordsB x).size + 1 + (asBytes (itoa sk2)).size + 1)) := by omega
            go_wp2_with fail
            refine (decimal_any sk2 _ (by omega) (by omega) (tabUp HT.out HB5.out)).mono ?_
            rintro e w5 ⟨rfl, b5⟩
            have HF := Lib.hid (bnext HB5.out b5 (Nat.le_refl _))
            clear b5
            have hle : (lg ++ lineB sk2 x).size = lg.size + ((wordsB x).size + 1 + (asBytes (itoa sk2)).size + 1) := by
              rw [ByteArray.size_append]
              simp only [lineB, ByteArray.size_append]
              rfl
            by_cases hfl : 4000 < (lg ++ lineB sk2 x).size
            · have hfi : (4000 : Int) < ((lg.size + ((wordsB x).size + 1 + (asBytes (itoa sk2)).size + 1) : Nat) : Int) := by omega
              have hfi2 : (4000 : Int) < (lg.size : Int) + (((wordsB x).size : Int) + 1 + ((asBytes (itoa sk2)).size : Int) + 1) := by omega
              have HO := Lib.hid (logOfF_full HALL.out HUP.out (by rw [hl.out]; have := HMONO.out; rw [HLG.out] at this; omega))
              clear hle hfl
              go_wp2
              go_ret2
              rw [HO.out]
              exact ⟨rfl, HF.out⟩
            · have hfi : ¬ ((4000 : Int) < ((lg.size + ((wordsB x).size + 1 + (asBytes (itoa sk2)).size + 1) : Nat) : Int)) := by omega
              have hfi2 : ¬ ((4000 : Int) < (lg.size : Int) + (((wordsB x).size : Int) + 1 + ((asBytes (itoa sk2)).size : Int) + 1)) := by omega
              have HSZ := Lib.hid (show (logTo l (k + 1)).size ≤ 4000 by rw [HLG.out]; omega)
              clear hle hfl
              go_wp2
              go_roundw
              case rel => exact ⟨k + 1, by omega, by go_num, by rw [HK2.out], by rw [HLG.out]; rfl, HSZ.out, HF.out⟩
              case measure => simp [RowKit.intOf]; omega
          · obtain rfl : k = n := by omega
            have HO := Lib.hid (logOfF_ok HALL.out HUP.out (by rw [hl.out]; omega))
            rw [hl.out] at HO
            clear hbel
            go_wp2
            go_ret2
            rw [HO.out]
            exact ⟨rfl, HB3.out⟩
end Go.Proofs.YtjmlcobbjpmjpaaDoor
