/- FnBalances: what is owed behind a booking is more by its amount, those who owe owe something, a debt has begun on the day told; the law returns true for every code. -/
import Derived.Test.YtjmlcobbjpmjpaaGreatDoorMgBalancesAD
import Derived.Test.YtjmlcobbjpmjpaaGreatDoorMgBalancesAE
import Derived.Test.YtjmlcobbjpmjpaaGreatDoorMgBalancesAF
import Derived.Laws.StructEq
import Derived.Deep.DeepCutAuto
set_option linter.unusedVariables false
set_option linter.unusedSimpArgs false
namespace Go.Proofs.YtjmlcobbjpmjpaaGreatDoor.lawBalances
open Go.RowKit Go.Proofs.YtjmlcobbjpmjpaaGreatDoor

theorem bookF_small {l : List Bk} {x : Bk} (h : ∀ z ∈ l, z.small) (hx : x.small) : ∀ z ∈ (bookF l x).1, z.small := by
  intro z hz
  unfold bookF at hz
  split at hz
  · split at hz
    · split at hz
      · simp at hz
      · unfold insBk at hz
        rcases List.mem_append.1 hz with e | e
        · exact h z (List.mem_of_mem_take e)
        · rcases List.mem_cons.1 e with e | e
          · subst e; exact hx
          · exact h z (List.mem_of_mem_drop e)
    · simp at hz
  · simp at hz
set_option maxHeartbeats 4000000 in
set_option maxRecDepth 100000 in
theorem walk (A0 : Option Addr) (n0 c0 : Nat) (bs : List Int) (w : World) (h0 : Reads w w.heap.size 1 A0 n0 (byts bs)) (hn0 : n0 ≤ 9223372036854775807) (hb0 : ∀ x ∈ bs, Byt x) (ht : TabP w) :
    Calls Tryz.prog 3 #[.slice A0 n0 c0] w fun e w' => e = .returned (.bool true) ∧ Below w.heap.size w w' := by
  have HT := Lib.hid ht
  have HB0 := Lib.hid hb0
  clear ht hb0
  go_enter Tryz.func3, Tryz.ntmps3
  go_wp2_with fail
  refine (f6big_any A0 n0 c0 _ hn0).mono ?_
  rintro e w' ⟨rfl, rfl⟩
  by_cases hbig : 4096 < n0
  · rw [decide_eq_true hbig]
    go_wp2
    go_ret
    exact ⟨rfl, Below.refl _ _⟩
  · rw [decide_eq_false hbig]
    go_wp2_with fail
    refine (drawBookClient_any _ _ _ bs _ ((h0.on (Nat.le_refl _) (Below.refl w.heap.size w)).more (Below.refl w.heap.size w).size) HB0.out hn0).mono ?_
    rintro e w1 ⟨la, Aa, da, xa, rfl, hxa, hla, hga, sa, b1⟩
    have z1 := b1.size
    have H1 := Lib.hid (bnext (Below.refl w.heap.size w) b1 (Nat.le_refl _))
    clear b1
    have Ga := Lib.hid (show (∀ z ∈ la, z.small) ∧ (∀ z ∈ la, z.good) from ⟨fun z hz => (hga z hz).2, fun z hz => (hga z hz).1⟩)
    clear hga
    obtain ⟨ga, rfl, _, _, _, hda⟩ := sa.at02 hla.2
    have HXA := Lib.hid hxa
    clear hxa
    obtain ⟨w2, hw2⟩ : ∃ y, w1.alloc (.cells #[.int .i64 xa.day, .string xa.client, .int .i64 xa.amount] 26) = y := ⟨_, rfl⟩
    have b2 : Below w1.heap.size w1 w2 := by rw [← hw2]; exact (Below.refl _ _).alloc (Nat.le_refl _) _
    have ya : Blk w2 w1.heap.size 26 #[.int .i64 xa.day, .string xa.client, .int .i64 xa.amount] := by rw [← hw2]; exact Blk.new _ _ _
    have z2 : w1.heap.size < w2.heap.size := by rw [← hw2]; simp
    replace sa := sa.on b2
    have H2 := Lib.hid (bnext H1.out b2 (Nat.le_refl _))
    clear b2
    have k0 := ya.cellAt 0 (by simp)
    have k1 := ya.cellAt 1 (by simp)
    have k2 := ya.cellAt 2 (by simp)
    simp only [List.getElem_toArray, List.getElem_cons_zero, List.getElem_cons_succ] at k0 k1 k2
    go_wp2_with fail
    refine (implBookClient_any ga la.length da la xa _ _ (sa.reads (by omega)) (Nat.le_refl _) (by omega) Ga.out.1 HXA.out.1 HXA.out.2).mono ?_
    rintro e w3 ⟨A1, m1, d1, rfl, s1, b3⟩
    have z3 := b3.size
    replace sa := sa.on b3
    replace ya := ya.on b3
    have H3 := Lib.hid (bnext H2.out b3 (Nat.le_refl _))
    clear b3
    clear hw2
    clear k0 k1 k2
    have k0 := ya.cellAt 0 (by simp)
    have k1 := ya.cellAt 1 (by simp)
    have k2 := ya.cellAt 2 (by simp)
    simp only [List.getElem_toArray, List.getElem_cons_zero, List.getElem_cons_succ] at k0 k1 k2
    go_wp2_with fail
    refine (specBookClient_any ga la.length da la xa _ _ (sa.reads (by omega)) (Nat.le_refl _) (by omega) Ga.out.1 HXA.out.1 HXA.out.2).mono ?_
    rintro e w4 ⟨A2, m2, d2, rfl, s2, b4⟩
    have z4 := b4.size
    replace sa := sa.on b4
    replace ya := ya.on b4
    replace s1 := s1.on b4
    have H4 := Lib.hid (bnext H3.out b4 (Nat.le_refl _))
    clear b4
    clear k0 k1 k2
    obtain rfl : m1 = m2 := by have h1 := s1.len; have h2 := s2.len; omega
    have hm1 : m1 ≤ 1048576 := cntBookClient_len s1.len
    go_upto_region 6 with fail
    as_aux_lemma =>
      go_wp2_with fail
      refine (drawOwedSince_any _ _ _ bs _ ((h0.on (Nat.le_refl _) H4.out).more H4.out.size) HB0.out hn0).mono ?_
      rintro e w5 ⟨lb, Ab, db, tb, xb, rfl, htb, hxb, hlb, hgb, sb, b5⟩
      have z5 := b5.size
      replace sa := sa.on b5
      replace ya := ya.on b5
      replace s1 := s1.on b5
      replace s2 := s2.on b5
      have H5 := Lib.hid (bnext H4.out b5 (Nat.le_refl _))
      clear b5
      have Gb := Lib.hid (show (∀ z ∈ lb, z.small) ∧ (∀ z ∈ lb, z.good) from ⟨fun z hz => (hgb z hz).2, fun z hz => (hgb z hz).1⟩)
      clear hgb
      have htb2 : tb.size ≤ 1048576 := by omega
      go_wp2_with fail
      refine (implOwedSince_any _ _ _ lb tb xb _ _ (sb.reads (by omega)) (Nat.le_refl _) (by omega) Gb.out.1 htb2 hxb).mono ?_
      rintro e w6 ⟨rfl, b6⟩
      have z6 := b6.size
      replace sa := sa.on b6
      replace ya := ya.on b6
      replace s1 := s1.on b6
      replace s2 := s2.on b6
      replace sb := sb.on b6
      have H6 := Lib.hid (bnext H5.out b6 (Nat.le_refl _))
      clear b6
      go_wp2_with fail
      refine (specOwedSince_any _ _ _ lb tb xb _ _ (sb.reads (by omega)) (Nat.le_refl _) (by omega) Gb.out.1 htb2 hxb).mono ?_
      rintro e w7 ⟨rfl, b7⟩
      have z7 := b7.size
      replace sa := sa.on b7
      replace ya := ya.on b7
      replace s1 := s1.on b7
      replace s2 := s2.on b7
      replace sb := sb.on b7
      have H7 := Lib.hid (bnext H6.out b7 (Nat.le_refl _))
      clear b7
      go_wp2_with fail
      refine (implBalanceOn_any _ _ _ lb tb xb _ _ (sb.reads (by omega)) (Nat.le_refl _) (by omega) Gb.out.1 htb2 hxb).mono ?_
      rintro e w8 ⟨rfl, b8⟩
      have z8 := b8.size
      replace sa := sa.on b8
      replace ya := ya.on b8
      replace s1 := s1.on b8
      replace s2 := s2.on b8
      replace sb := sb.on b8
      have H8 := Lib.hid (bnext H7.out b8 (Nat.le_refl _))
      clear b8
      go_wp2_with fail
      refine (specBalanceOn_any _ _ _ lb tb xb _ _ (sb.reads (by omega)) (Nat.le_refl _) (by omega) Gb.out.1 htb2 hxb).mono ?_
      rintro e w9 ⟨rfl, b9⟩
      have z9 := b9.size
      replace sa := sa.on b9
      replace ya := ya.on b9
      replace s1 := s1.on b9
      replace s2 := s2.on b9
      replace sb := sb.on b9
      have H9 := Lib.hid (bnext H8.out b9 (Nat.le_refl _))
      clear b9
      go_upto_region 11 with fail
      as_aux_lemma =>
        go_wp2_with fail
        refine (drawDebtorsOn_any _ _ _ bs _ ((h0.on (Nat.le_refl _) H9.out).more H9.out.size) HB0.out hn0).mono ?_
        rintro e w10 ⟨lc, Ac, dc, xc, rfl, hxc, hlc, hgc, sc, b10⟩
        have z10 := b10.size
        replace sa := sa.on b10
        replace ya := ya.on b10
        replace s1 := s1.on b10
        replace s2 := s2.on b10
        replace sb := sb.on b10
        have H10 := Lib.hid (bnext H9.out b10 (Nat.le_refl _))
        clear b10
        have Gc := Lib.hid (show (∀ z ∈ lc, z.small) ∧ (∀ z ∈ lc, z.good) from ⟨fun z hz => (hgc z hz).2, fun z hz => (hgc z hz).1⟩)
        clear hgc
        go_wp2_with fail
        refine (implDebtorsOn_any _ _ _ lc xc _ _ (sc.reads (by omega)) (Nat.le_refl _) (by omega) Gc.out.1 hxc).mono ?_
        rintro e w11 ⟨A5, m5, d5, rfl, s5, b11⟩
        have z11 := b11.size
        replace sa := sa.on b11
        replace ya := ya.on b11
        replace s1 := s1.on b11
        replace s2 := s2.on b11
        replace sb := sb.on b11
        replace sc := sc.on b11
        have H11 := Lib.hid (bnext H10.out b11 (Nat.le_refl _))
        clear b11
        go_wp2_with fail
        refine (specDebtorsOn_any _ _ _ lc xc _ _ (sc.reads (by omega)) (Nat.le_refl _) (by omega) Gc.out.1 hxc).mono ?_
        rintro e w12 ⟨A6, m6, d6, rfl, s6, b12⟩
        have z12 := b12.size
        replace sa := sa.on b12
        replace ya := ya.on b12
        replace s1 := s1.on b12
        replace s2 := s2.on b12
        replace sb := sb.on b12
        replace sc := sc.on b12
        replace s5 := s5.on b12
        have H12 := Lib.hid (bnext H11.out b12 (Nat.le_refl _))
        clear b12
        have hm5 : m5 ≤ 1048576 := cntDebtorsOn_len s5.len
        obtain rfl : m5 = m6 := by have h1 := s5.len; have h2 := s6.len; omega
        go_upto_region 14 with fail
        as_aux_lemma =>
          go_wp2_with fail
          refine (drawSameBookings_any _ _ _ bs _ ((h0.on (Nat.le_refl _) H12.out).more H12.out.size) HB0.out hn0).mono ?_
          rintro e w13 ⟨le, Ae, de, lf, Af, df, rfl, ⟨hle, hge⟩, ⟨hlf, hgf⟩, se, sf, b13⟩
          have z13 := b13.size
          replace sa := sa.on b13
          replace ya := ya.on b13
          replace s1 := s1.on b13
          replace s2 := s2.on b13
          replace sb := sb.on b13
          replace sc := sc.on b13
          replace s5 := s5.on b13
          replace s6 := s6.on b13
          have H13 := Lib.hid (bnext H12.out b13 (Nat.le_refl _))
          clear b13
          have GE := Lib.hid (show (∀ z ∈ le, z.small) ∧ (∀ z ∈ lf, z.small) from ⟨fun z hz => (hge z hz).2, fun z hz => (hgf z hz).2⟩)
          clear hge hgf
          go_wp2_with fail
          refine (drawBookingText_any _ _ _ bs _ ((h0.on (Nat.le_refl _) H13.out).more H13.out.size) HB0.out hn0).mono ?_
          rintro e w14 ⟨xt, rfl, hxt, b14⟩
          have z14 := b14.size
          replace sa := sa.on b14
          replace ya := ya.on b14
          replace s1 := s1.on b14
          replace s2 := s2.on b14
          replace sb := sb.on b14
          replace sc := sc.on b14
          replace s5 := s5.on b14
          replace s6 := s6.on b14
          replace se := se.on b14
          replace sf := sf.on b14
          have H14 := Lib.hid (bnext H13.out b14 (Nat.le_refl _))
          clear b14
          have HXT := Lib.hid hxt
          clear hxt
          obtain ⟨w15, hw15⟩ : ∃ y, w14.alloc (.cells #[.int .i64 xt.day, .string xt.client, .int .i64 xt.amount] 26) = y := ⟨_, rfl⟩
          have b15 : Below w14.heap.size w14 w15 := by rw [← hw15]; exact (Below.refl _ _).alloc (Nat.le_refl _) _
          have yt : Blk w15 w14.heap.size 26 #[.int .i64 xt.day, .string xt.client, .int .i64 xt.amount] := by rw [← hw15]; exact Blk.new _ _ _
          have z15 : w14.heap.size < w15.heap.size := by rw [← hw15]; simp
          replace sa := sa.on b15
          replace ya := ya.on b15
          replace s1 := s1.on b15
          replace s2 := s2.on b15
          replace sb := sb.on b15
          replace sc := sc.on b15
          replace s5 := s5.on b15
          replace s6 := s6.on b15
          replace se := se.on b15
          replace sf := sf.on b15
          have H15 := Lib.hid (bnext H14.out b15 (Nat.le_refl _))
          clear b15
          go_upto_region 16 with fail
          as_aux_lemma =>
            try clear hw15
            go_cut [180] (fun sv wx => sv = .bool false ∧ Below w15.heap.size w15 wx)
            case first => as_aux_lemma =>
              refine wp_region_held_drew (S := (fun W => Below w15.heap.size w15 W ∧ True)) (by kernel_rfl) ?_ (fun hHeld => ?_)
              · exact ⟨(Below.refl _ _).drew, trivial⟩
              refine wpAnyH_take (i := 0) (v := ?_) rfl (by kernel_rfl) (by kernel_rfl) (by kernel_rfl) (fun _ _ _ h => h) (Or.inl ⟨by kernel_rfl, ?_⟩) (by assumption) ?_
              rotate_left 1
              · intro w hSw; (try dsimp only at hSw); go_simp; try with_reducible rfl
              try simp only [Act.put, List.getElem_toArray, List.getElem_cons_succ, List.getElem_cons_zero, List.setIfInBounds_toArray, List.set_cons_zero, List.set_cons_succ]
              refine wpAnyH_take (i := 1) (v := ?_) rfl (by kernel_rfl) (by kernel_rfl) (by kernel_rfl) (fun _ _ _ h => h) (Or.inl ⟨by kernel_rfl, ?_⟩) (by assumption) ?_
              rotate_left 1
              · intro w hSw; (try dsimp only at hSw); go_simp; try with_reducible rfl
              try simp only [Act.put, List.getElem_toArray, List.getElem_cons_succ, List.getElem_cons_zero, List.setIfInBounds_toArray, List.set_cons_zero, List.set_cons_succ]
              refine wpAnyH_take (i := 2) (v := ?_) rfl (by kernel_rfl) (by kernel_rfl) (by kernel_rfl) (fun _ _ _ h => h) (Or.inl ⟨by kernel_rfl, ?_⟩) (by assumption) ?_
              rotate_left 1
              · intro w hSw; (try dsimp only at hSw); go_simp; try with_reducible rfl
              try simp only [Act.put, List.getElem_toArray, List.getElem_cons_succ, List.getElem_cons_zero, List.setIfInBounds_toArray, List.set_cons_zero, List.set_cons_succ]
              refine wpAnyH_take (i := 3) (v := ?_) rfl (by kernel_rfl) (by kernel_rfl) (by kernel_rfl) (fun _ _ _ h => h) (Or.inl ⟨by kernel_rfl, ?_⟩) (by assumption) ?_
              rotate_left 1
              · intro w hSw; (try dsimp only at hSw); go_simp; try with_reducible rfl
              try simp only [Act.put, List.getElem_toArray, List.getElem_cons_succ, List.getElem_cons_zero, List.setIfInBounds_toArray, List.set_cons_zero, List.set_cons_succ]
              refine wpAnyH_take (i := 4) (v := ?_) rfl (by kernel_rfl) (by kernel_rfl) (by kernel_rfl) (fun _ _ _ h => h) (Or.inl ⟨by kernel_rfl, ?_⟩) (by assumption) ?_
              rotate_left 1
              · intro w hSw; (try dsimp only at hSw); go_simp; try with_reducible rfl
              try simp only [Act.put, List.getElem_toArray, List.getElem_cons_succ, List.getElem_cons_zero, List.setIfInBounds_toArray, List.set_cons_zero, List.set_cons_succ]
              refine wpAnyH_take (i := 5) (v := ?_) rfl (by kernel_rfl) (by kernel_rfl) (by kernel_rfl) (fun _ _ _ h => h) (Or.inl ⟨by kernel_rfl, ?_⟩) (by assumption) ?_
              rotate_left 1
              · intro w hSw; (try dsimp only at hSw); go_simp; try with_reducible rfl
              try simp only [Act.put, List.getElem_toArray, List.getElem_cons_succ, List.getElem_cons_zero, List.setIfInBounds_toArray, List.set_cons_zero, List.set_cons_succ]
              refine wpAnyH_ready (rs := [6]) (by kernel_rfl) (by simp) ?_
              refine AllReadyH.cons rfl (fun K hK => ?_) AllReadyH.nil
              go_simp
              go_at_call 21
              refine (specSameBookings_any _ _ _ (bookF la xa).1 _ _ _ (bookF la xa).1 _ _ ((s1.on hHeld.1).reads (by have := hHeld.1.size; omega)) ((s2.on hHeld.1).reads (by have := hHeld.1.size; omega)) (Nat.le_refl _) hm1 (bookF_small Ga.out.1 HXA.out.2) hm1 (bookF_small Ga.out.1 HXA.out.2)).mono ?_
              rw [sameBks_refl]
              rintro e u ⟨rfl, bu⟩
              have bu' := bu
              clear bu
              go_wp2_with fail
              refine hK.out _ _ ?_ (fun hNew => ?_)
              · exact ⟨bnext hHeld.1 bu' (Nat.le_refl _), trivial⟩
              clear hK K hHeld
              have hHeld := hNew
              clear hNew
              try simp only [Act.put, List.getElem_toArray, List.getElem_cons_succ, List.getElem_cons_zero, List.setIfInBounds_toArray, List.set_cons_zero, List.set_cons_succ]
              refine wpAnyH_take (i := 7) (v := ?_) rfl (by kernel_rfl) (by kernel_rfl) (by kernel_rfl) (fun _ _ _ h => h) (Or.inl ⟨by kernel_rfl, ?_⟩) (by assumption) ?_
              rotate_left 1
              · intro w hSw; (try dsimp only at hSw); go_simp; try with_reducible rfl
              try simp only [Act.put, List.getElem_toArray, List.getElem_cons_succ, List.getElem_cons_zero, List.setIfInBounds_toArray, List.set_cons_zero, List.set_cons_succ]
              refine wpAnyH_take (i := 8) (v := ?_) rfl (by kernel_rfl) (by kernel_rfl) (by kernel_rfl) (fun _ _ _ h => h) (Or.inl ⟨by kernel_rfl, ?_⟩) (by assumption) ?_
              rotate_left 1
              · intro w hSw; (try dsimp only at hSw); go_simp; try with_reducible rfl
              try simp only [Act.put, List.getElem_toArray, List.getElem_cons_succ, List.getElem_cons_zero, List.setIfInBounds_toArray, List.set_cons_zero, List.set_cons_succ]
              refine wpAnyH_take (i := 9) (v := ?_) rfl (by kernel_rfl) (by kernel_rfl) (by kernel_rfl) (fun _ _ _ h => h) (Or.inl ⟨by kernel_rfl, ?_⟩) (by assumption) ?_
              rotate_left 1
              · intro w hSw; (try dsimp only at hSw); go_simp; try with_reducible rfl
              try simp only [Act.put, List.getElem_toArray, List.getElem_cons_succ, List.getElem_cons_zero, List.setIfInBounds_toArray, List.set_cons_zero, List.set_cons_succ]
              refine wpAnyH_take (i := 10) (v := ?_) rfl (by kernel_rfl) (by kernel_rfl) (by kernel_rfl) (fun _ _ _ h => h) (Or.inl ⟨by kernel_rfl, ?_⟩) (by assumption) ?_
              rotate_left 1
              · intro w hSw; (try dsimp only at hSw); go_simp; try with_reducible rfl
              try simp only [Act.put, List.getElem_toArray, List.getElem_cons_succ, List.getElem_cons_zero, List.setIfInBounds_toArray, List.set_cons_zero, List.set_cons_succ]
              refine wpAnyH_take (i := 11) (v := ?_) rfl (by kernel_rfl) (by kernel_rfl) (by kernel_rfl) (fun _ _ _ h => h) (Or.inl ⟨by kernel_rfl, ?_⟩) (by assumption) ?_
              rotate_left 1
              · intro w hSw; (try dsimp only at hSw); go_simp; try with_reducible rfl
              try simp only [Act.put, List.getElem_toArray, List.getElem_cons_succ, List.getElem_cons_zero, List.setIfInBounds_toArray, List.set_cons_zero, List.set_cons_succ]
              refine wpAnyH_take (i := 12) (v := ?_) rfl (by kernel_rfl) (by kernel_rfl) (by kernel_rfl) (fun _ _ _ h => h) (Or.inl ⟨by kernel_rfl, ?_⟩) (by assumption) ?_
              rotate_left 1
              · intro w hSw; (try dsimp only at hSw); go_simp; try with_reducible rfl
              try simp only [Act.put, List.getElem_toArray, List.getElem_cons_succ, List.getElem_cons_zero, List.setIfInBounds_toArray, List.set_cons_zero, List.set_cons_succ]
              refine wpAnyH_take (i := 13) (v := ?_) rfl (by kernel_rfl) (by kernel_rfl) (by kernel_rfl) (fun _ _ _ h => h) (Or.inl ⟨by kernel_rfl, ?_⟩) (by assumption) ?_
              rotate_left 1
              · intro w hSw; (try dsimp only at hSw); go_simp; try with_reducible rfl
              try simp only [Act.put, List.getElem_toArray, List.getElem_cons_succ, List.getElem_cons_zero, List.setIfInBounds_toArray, List.set_cons_zero, List.set_cons_succ]
              refine wpAnyH_take (i := 14) (v := ?_) rfl (by kernel_rfl) (by kernel_rfl) (by kernel_rfl) (fun _ _ _ h => h) (Or.inl ⟨by kernel_rfl, ?_⟩) (by assumption) ?_
              rotate_left 1
              · intro w hSw; (try dsimp only at hSw); go_simp; try with_reducible rfl
              try simp only [Act.put, List.getElem_toArray, List.getElem_cons_succ, List.getElem_cons_zero, List.setIfInBounds_toArray, List.set_cons_zero, List.set_cons_succ]
              refine wpAnyH_take (i := 15) (v := ?_) rfl (by kernel_rfl) (by kernel_rfl) (by kernel_rfl) (fun _ _ _ h => h) (Or.inl ⟨by kernel_rfl, ?_⟩) (by assumption) ?_
              rotate_left 1
              · intro w hSw; (try dsimp only at hSw); go_simp; try with_reducible rfl
              try simp only [Act.put, List.getElem_toArray, List.getElem_cons_succ, List.getElem_cons_zero, List.setIfInBounds_toArray, List.set_cons_zero, List.set_cons_succ]
              refine wpAnyH_take (i := 16) (v := ?_) rfl (by kernel_rfl) (by kernel_rfl) (by kernel_rfl) (fun _ _ _ h => h) (Or.inl ⟨by kernel_rfl, ?_⟩) (by assumption) ?_
              rotate_left 1
              · intro w hSw; (try dsimp only at hSw); go_simp; try with_reducible rfl
              try simp only [Act.put, List.getElem_toArray, List.getElem_cons_succ, List.getElem_cons_zero, List.setIfInBounds_toArray, List.set_cons_zero, List.set_cons_succ]
              refine wpAnyH_take (i := 17) (v := ?_) rfl (by kernel_rfl) (by kernel_rfl) (by kernel_rfl) (fun _ _ _ h => h) (Or.inl ⟨by kernel_rfl, ?_⟩) (by assumption) ?_
              rotate_left 1
              · intro w hSw; (try dsimp only at hSw); go_simp; try with_reducible rfl
              try simp only [Act.put, List.getElem_toArray, List.getElem_cons_succ, List.getElem_cons_zero, List.setIfInBounds_toArray, List.set_cons_zero, List.set_cons_succ]
              refine wpAnyH_take (i := 18) (v := ?_) rfl (by kernel_rfl) (by kernel_rfl) (by kernel_rfl) (fun _ _ _ h => h) (Or.inl ⟨by kernel_rfl, ?_⟩) (by assumption) ?_
              rotate_left 1
              · intro w hSw; (try dsimp only at hSw); go_simp; try with_reducible rfl
              try simp only [Act.put, List.getElem_toArray, List.getElem_cons_succ, List.getElem_cons_zero, List.setIfInBounds_toArray, List.set_cons_zero, List.set_cons_succ]
              refine wpAnyH_take (i := 19) (v := ?_) rfl (by kernel_rfl) (by kernel_rfl) (by kernel_rfl) (fun _ _ _ h => h) (Or.inl ⟨by kernel_rfl, ?_⟩) (by assumption) ?_
              rotate_left 1
              · intro w hSw; (try dsimp only at hSw); go_simp; try with_reducible rfl
              try simp only [Act.put, List.getElem_toArray, List.getElem_cons_succ, List.getElem_cons_zero, List.setIfInBounds_toArray, List.set_cons_zero, List.set_cons_succ]
              refine wpAnyH_take (i := 20) (v := ?_) rfl (by kernel_rfl) (by kernel_rfl) (by kernel_rfl) (fun _ _ _ h => h) (Or.inl ⟨by kernel_rfl, ?_⟩) (by assumption) ?_
              rotate_left 1
              · intro w hSw; (try dsimp only at hSw); go_simp; try with_reducible rfl
              try simp only [Act.put, List.getElem_toArray, List.getElem_cons_succ, List.getElem_cons_zero, List.setIfInBounds_toArray, List.set_cons_zero, List.set_cons_succ]
              refine wpAnyH_take (i := 21) (v := ?_) rfl (by kernel_rfl) (by kernel_rfl) (by kernel_rfl) (fun _ _ _ h => h) (Or.inl ⟨by kernel_rfl, ?_⟩) (by assumption) ?_
              rotate_left 1
              · intro w hSw; (try dsimp only at hSw); go_simp; try with_reducible rfl
              try simp only [Act.put, List.getElem_toArray, List.getElem_cons_succ, List.getElem_cons_zero, List.setIfInBounds_toArray, List.set_cons_zero, List.set_cons_succ]
              refine wpAnyH_take (i := 22) (v := ?_) rfl (by kernel_rfl) (by kernel_rfl) (by kernel_rfl) (fun _ _ _ h => h) (Or.inl ⟨by kernel_rfl, ?_⟩) (by assumption) ?_
              rotate_left 1
              · intro w hSw; (try dsimp only at hSw); go_simp; try with_reducible rfl
              try simp only [Act.put, List.getElem_toArray, List.getElem_cons_succ, List.getElem_cons_zero, List.setIfInBounds_toArray, List.set_cons_zero, List.set_cons_succ]
              refine wpAnyH_take (i := 23) (v := ?_) rfl (by kernel_rfl) (by kernel_rfl) (by kernel_rfl) (fun _ _ _ h => h) (Or.inl ⟨by kernel_rfl, ?_⟩) (by assumption) ?_
              rotate_left 1
              · intro w hSw; (try dsimp only at hSw); go_simp; try with_reducible rfl
              try simp only [Act.put, List.getElem_toArray, List.getElem_cons_succ, List.getElem_cons_zero, List.setIfInBounds_toArray, List.set_cons_zero, List.set_cons_succ]
              refine wpAnyH_take (i := 24) (v := ?_) rfl (by kernel_rfl) (by kernel_rfl) (by kernel_rfl) (fun _ _ _ h => h) (Or.inl ⟨by kernel_rfl, ?_⟩) (by assumption) ?_
              rotate_left 1
              · intro w hSw; (try dsimp only at hSw); go_simp; try with_reducible rfl
              try simp only [Act.put, List.getElem_toArray, List.getElem_cons_succ, List.getElem_cons_zero, List.setIfInBounds_toArray, List.set_cons_zero, List.set_cons_succ]
              refine wpAnyH_take (i := 25) (v := ?_) rfl (by kernel_rfl) (by kernel_rfl) (by kernel_rfl) (fun _ _ _ h => h) (Or.inl ⟨by kernel_rfl, ?_⟩) (by assumption) ?_
              rotate_left 1
              · intro w hSw; (try dsimp only at hSw); go_simp; try with_reducible rfl
              try simp only [Act.put, List.getElem_toArray, List.getElem_cons_succ, List.getElem_cons_zero, List.setIfInBounds_toArray, List.set_cons_zero, List.set_cons_succ]
              refine wpAnyH_take (i := 26) (v := ?_) rfl (by kernel_rfl) (by kernel_rfl) (by kernel_rfl) (fun _ _ _ h => h) (Or.inl ⟨by kernel_rfl, ?_⟩) (by assumption) ?_
              rotate_left 1
              · intro w hSw; (try dsimp only at hSw); go_simp; try with_reducible rfl
              try simp only [Act.put, List.getElem_toArray, List.getElem_cons_succ, List.getElem_cons_zero, List.setIfInBounds_toArray, List.set_cons_zero, List.set_cons_succ]
              refine wpAnyH_take (i := 27) (v := ?_) rfl (by kernel_rfl) (by kernel_rfl) (by kernel_rfl) (fun _ _ _ h => h) (Or.inl ⟨by kernel_rfl, ?_⟩) (by assumption) ?_
              rotate_left 1
              · intro w hSw; (try dsimp only at hSw); go_simp; try with_reducible rfl
              try simp only [Act.put, List.getElem_toArray, List.getElem_cons_succ, List.getElem_cons_zero, List.setIfInBounds_toArray, List.set_cons_zero, List.set_cons_succ]
              refine wpAnyH_take (i := 28) (v := ?_) rfl (by kernel_rfl) (by kernel_rfl) (by kernel_rfl) (fun _ _ _ h => h) (Or.inl ⟨by kernel_rfl, ?_⟩) (by assumption) ?_
              rotate_left 1
              · intro w hSw; (try dsimp only at hSw); go_simp; try with_reducible rfl
              try simp only [Act.put, List.getElem_toArray, List.getElem_cons_succ, List.getElem_cons_zero, List.setIfInBounds_toArray, List.set_cons_zero, List.set_cons_succ]
              refine wpAnyH_take (i := 29) (v := ?_) rfl (by kernel_rfl) (by kernel_rfl) (by kernel_rfl) (fun _ _ _ h => h) (Or.inl ⟨by kernel_rfl, ?_⟩) (by assumption) ?_
              rotate_left 1
              · intro w hSw; (try dsimp only at hSw); go_simp; try with_reducible rfl
              try simp only [Act.put, List.getElem_toArray, List.getElem_cons_succ, List.getElem_cons_zero, List.setIfInBounds_toArray, List.set_cons_zero, List.set_cons_succ]
              refine wpAnyH_take (i := 30) (v := ?_) rfl (by kernel_rfl) (by kernel_rfl) (by kernel_rfl) (fun _ _ _ h => h) (Or.inl ⟨by kernel_rfl, ?_⟩) (by assumption) ?_
              rotate_left 1
              · intro w hSw; (try dsimp only at hSw); go_simp; try with_reducible rfl
              try simp only [Act.put, List.getElem_toArray, List.getElem_cons_succ, List.getElem_cons_zero, List.setIfInBounds_toArray, List.set_cons_zero, List.set_cons_succ]
              refine wpAnyH_take (i := 31) (v := ?_) rfl (by kernel_rfl) (by kernel_rfl) (by kernel_rfl) (fun _ _ _ h => h) (Or.inl ⟨by kernel_rfl, ?_⟩) (by assumption) ?_
              rotate_left 1
              · intro w hSw; (try dsimp only at hSw); go_simp; try with_reducible rfl
              try simp only [Act.put, List.getElem_toArray, List.getElem_cons_succ, List.getElem_cons_zero, List.setIfInBounds_toArray, List.set_cons_zero, List.set_cons_succ]
              refine wpAnyH_take (i := 32) (v := ?_) rfl (by kernel_rfl) (by kernel_rfl) (by kernel_rfl) (fun _ _ _ h => h) (Or.inl ⟨by kernel_rfl, ?_⟩) (by assumption) ?_
              rotate_left 1
              · intro w hSw; (try dsimp only at hSw); go_simp; try with_reducible rfl
              try simp only [Act.put, List.getElem_toArray, List.getElem_cons_succ, List.getElem_cons_zero, List.setIfInBounds_toArray, List.set_cons_zero, List.set_cons_succ]
              refine wpAnyH_take (i := 33) (v := ?_) rfl (by kernel_rfl) (by kernel_rfl) (by kernel_rfl) (fun _ _ _ h => h) (Or.inl ⟨by kernel_rfl, ?_⟩) (by assumption) ?_
              rotate_left 1
              · intro w hSw; (try dsimp only at hSw); go_simp; try with_reducible rfl
              try simp only [Act.put, List.getElem_toArray, List.getElem_cons_succ, List.getElem_cons_zero, List.setIfInBounds_toArray, List.set_cons_zero, List.set_cons_succ]
              refine wpAnyH_take (i := 34) (v := ?_) rfl (by kernel_rfl) (by kernel_rfl) (by kernel_rfl) (fun _ _ _ h => h) (Or.inl ⟨by kernel_rfl, ?_⟩) (by assumption) ?_
              rotate_left 1
              · intro w hSw; (try dsimp only at hSw); go_simp; try with_reducible rfl
              try simp only [Act.put, List.getElem_toArray, List.getElem_cons_succ, List.getElem_cons_zero, List.setIfInBounds_toArray, List.set_cons_zero, List.set_cons_succ]
              refine wpAnyH_take (i := 35) (v := ?_) rfl (by kernel_rfl) (by kernel_rfl) (by kernel_rfl) (fun _ _ _ h => h) (Or.inl ⟨by kernel_rfl, ?_⟩) (by assumption) ?_
              rotate_left 1
              · intro w hSw; (try dsimp only at hSw); go_simp; try with_reducible rfl
              try simp only [Act.put, List.getElem_toArray, List.getElem_cons_succ, List.getElem_cons_zero, List.setIfInBounds_toArray, List.set_cons_zero, List.set_cons_succ]
              refine wpAnyH_take (i := 36) (v := ?_) rfl (by kernel_rfl) (by kernel_rfl) (by kernel_rfl) (fun _ _ _ h => h) (Or.inl ⟨by kernel_rfl, ?_⟩) (by assumption) ?_
              rotate_left 1
              · intro w hSw; (try dsimp only at hSw); go_simp; try with_reducible rfl
              try simp only [Act.put, List.getElem_toArray, List.getElem_cons_succ, List.getElem_cons_zero, List.setIfInBounds_toArray, List.set_cons_zero, List.set_cons_succ]
              refine wpAnyH_ready (rs := [37]) (by kernel_rfl) (by simp) ?_
              refine AllReadyH.cons rfl (fun K hK => ?_) AllReadyH.nil
              go_simp
              go_at_call 22
              refine (f6texts_same _ _ _ _ _ _ _ _ ((s5.on hHeld.1).reads (by have := hHeld.1.size; omega)) ((s6.on hHeld.1).reads (by have := hHeld.1.size; omega)) hm5 (Nat.le_refl _)).mono ?_
              rintro e u ⟨rfl, bu⟩
              have bu' := bu
              clear bu
              go_wp2_with fail
              refine hK.out _ _ ?_ (fun hNew => ?_)
              · exact ⟨bnext hHeld.1 bu' (Nat.le_refl _), trivial⟩
              clear hK K hHeld
              have hHeld := hNew
              clear hNew
              try simp only [Act.put, List.getElem_toArray, List.getElem_cons_succ, List.getElem_cons_zero, List.setIfInBounds_toArray, List.set_cons_zero, List.set_cons_succ]
              refine wpAnyH_take (i := 38) (v := ?_) rfl (by kernel_rfl) (by kernel_rfl) (by kernel_rfl) (fun _ _ _ h => h) (Or.inl ⟨by kernel_rfl, ?_⟩) (by assumption) ?_
              rotate_left 1
              · intro w hSw; (try dsimp only at hSw); go_simp; try with_reducible rfl
              try simp only [Act.put, List.getElem_toArray, List.getElem_cons_succ, List.getElem_cons_zero, List.setIfInBounds_toArray, List.set_cons_zero, List.set_cons_succ]
              refine wpAnyH_take (i := 39) (v := ?_) rfl (by kernel_rfl) (by kernel_rfl) (by kernel_rfl) (fun _ _ _ h => h) (Or.inl ⟨by kernel_rfl, ?_⟩) (by assumption) ?_
              rotate_left 1
              · intro w hSw; (try dsimp only at hSw); go_simp; try with_reducible rfl
              try simp only [Act.put, List.getElem_toArray, List.getElem_cons_succ, List.getElem_cons_zero, List.setIfInBounds_toArray, List.set_cons_zero, List.set_cons_succ]
              refine wpAnyH_take (i := 40) (v := ?_) rfl (by kernel_rfl) (by kernel_rfl) (by kernel_rfl) (fun _ _ _ h => h) (Or.inl ⟨by kernel_rfl, ?_⟩) (by assumption) ?_
              rotate_left 1
              · intro w hSw; (try dsimp only at hSw); go_simp; try with_reducible rfl
              try simp only [Act.put, List.getElem_toArray, List.getElem_cons_succ, List.getElem_cons_zero, List.setIfInBounds_toArray, List.set_cons_zero, List.set_cons_succ]
              refine wpAnyH_take (i := 41) (v := ?_) rfl (by kernel_rfl) (by kernel_rfl) (by kernel_rfl) (fun _ _ _ h => h) (Or.inl ⟨by kernel_rfl, ?_⟩) (by assumption) ?_
              rotate_left 1
              · intro w hSw; (try dsimp only at hSw); go_simp; try with_reducible rfl
              try simp only [Act.put, List.getElem_toArray, List.getElem_cons_succ, List.getElem_cons_zero, List.setIfInBounds_toArray, List.set_cons_zero, List.set_cons_succ]
              refine wpAnyH_take (i := 42) (v := ?_) rfl (by kernel_rfl) (by kernel_rfl) (by kernel_rfl) (fun _ _ _ h => h) (Or.inl ⟨by kernel_rfl, ?_⟩) (by assumption) ?_
              rotate_left 1
              · intro w hSw; (try dsimp only at hSw); go_simp; try with_reducible rfl
              try simp only [Act.put, List.getElem_toArray, List.getElem_cons_succ, List.getElem_cons_zero, List.setIfInBounds_toArray, List.set_cons_zero, List.set_cons_succ]
              refine wpAnyH_take (i := 44) (v := ?_) rfl (by kernel_rfl) (by kernel_rfl) (by kernel_rfl) (fun _ _ _ h => h) (Or.inl ⟨by kernel_rfl, ?_⟩) (by assumption) ?_
              rotate_left 1
              · intro w hSw; (try dsimp only at hSw); go_simp; try with_reducible rfl
              try simp only [Act.put, List.getElem_toArray, List.getElem_cons_succ, List.getElem_cons_zero, List.setIfInBounds_toArray, List.set_cons_zero, List.set_cons_succ]
              refine wpAnyH_take (i := 45) (v := ?_) rfl (by kernel_rfl) (by kernel_rfl) (by kernel_rfl) (fun _ _ _ h => h) (Or.inl ⟨by kernel_rfl, ?_⟩) (by assumption) ?_
              rotate_left 1
              · intro w hSw; (try dsimp only at hSw); go_simp; try with_reducible rfl
              try simp only [Act.put, List.getElem_toArray, List.getElem_cons_succ, List.getElem_cons_zero, List.setIfInBounds_toArray, List.set_cons_zero, List.set_cons_succ]
              refine wpAnyH_ready (rs := [43]) (by kernel_rfl) (by simp) ?_
              refine AllReadyH.cons rfl (fun K hK => ?_) AllReadyH.nil
              go_simp
              go_at_call 23
              refine (implSameBookings_any _ _ _ le _ _ _ lf _ _ ((se.on hHeld.1).reads (by have := hHeld.1.size; omega)) ((sf.on hHeld.1).reads (by have := hHeld.1.size; omega)) (Nat.le_refl _) (by omega) GE.out.1 (by omega) GE.out.2).mono ?_
              rintro e u ⟨rfl, bu⟩
              have bu' := bu
              clear bu
              go_wp2_with fail
              refine hK.out _ _ ?_ (fun hNew => ?_)
              · exact ⟨bnext hHeld.1 bu' (Nat.le_refl _), trivial⟩
              clear hK K hHeld
              have hHeld := hNew
              clear hNew
              try simp only [Act.put, List.getElem_toArray, List.getElem_cons_succ, List.getElem_cons_zero, List.setIfInBounds_toArray, List.set_cons_zero, List.set_cons_succ]
              refine wpAnyH_ready (rs := [46]) (by kernel_rfl) (by simp) ?_
              refine AllReadyH.cons rfl (fun K hK => ?_) AllReadyH.nil
              go_simp
              go_at_call 21
              refine (specSameBookings_any _ _ _ le _ _ _ lf _ _ ((se.on hHeld.1).reads (by have := hHeld.1.size; omega)) ((sf.on hHeld.1).reads (by have := hHeld.1.size; omega)) (Nat.le_refl _) (by omega) GE.out.1 (by omega) GE.out.2).mono ?_
              rintro e u ⟨rfl, bu⟩
              have bu' := bu
              clear bu
              go_wp2_with fail
              refine hK.out _ _ ?_ (fun hNew => ?_)
              · exact ⟨bnext hHeld.1 bu' (Nat.le_refl _), trivial⟩
              clear hK K hHeld
              have hHeld := hNew
              clear hNew
              try simp only [Act.put, List.getElem_toArray, List.getElem_cons_succ, List.getElem_cons_zero, List.setIfInBounds_toArray, List.set_cons_zero, List.set_cons_succ]
              refine wpAnyH_take (i := 47) (v := ?_) rfl (by kernel_rfl) (by kernel_rfl) (by kernel_rfl) (fun _ _ _ h => h) (Or.inl ⟨by kernel_rfl, ?_⟩) (by assumption) ?_
              rotate_left 1
              · intro w hSw; (try dsimp only at hSw); go_simp; try with_reducible rfl
              try simp only [Act.put, List.getElem_toArray, List.getElem_cons_succ, List.getElem_cons_zero, List.setIfInBounds_toArray, List.set_cons_zero, List.set_cons_succ]
              refine wpAnyH_take (i := 48) (v := ?_) rfl (by kernel_rfl) (by kernel_rfl) (by kernel_rfl) (fun _ _ _ h => h) (Or.inl ⟨by kernel_rfl, ?_⟩) (by assumption) ?_
              rotate_left 1
              · intro w hSw; (try dsimp only at hSw); go_simp; try with_reducible rfl
              try simp only [Act.put, List.getElem_toArray, List.getElem_cons_succ, List.getElem_cons_zero, List.setIfInBounds_toArray, List.set_cons_zero, List.set_cons_succ]
              refine wpAnyH_take (i := 49) (v := ?_) rfl (by kernel_rfl) (by kernel_rfl) (by kernel_rfl) (fun _ _ _ h => h) (Or.inl ⟨by kernel_rfl, ?_⟩) (by assumption) ?_
              rotate_left 1
              · intro w hSw; (try dsimp only at hSw); go_simp; try with_reducible rfl
              try simp only [Act.put, List.getElem_toArray, List.getElem_cons_succ, List.getElem_cons_zero, List.setIfInBounds_toArray, List.set_cons_zero, List.set_cons_succ]
              refine wpAnyH_take (i := 50) (v := ?_) rfl (by kernel_rfl) (by kernel_rfl) (by kernel_rfl) (fun _ _ _ h => h) (Or.inl ⟨by kernel_rfl, ?_⟩) (by assumption) ?_
              rotate_left 1
              · intro w hSw; (try dsimp only at hSw); (have l0 := (yt.on hSw.1).cellAt 0 (by simp)); (have l1 := (yt.on hSw.1).cellAt 1 (by simp)); (have l2 := (yt.on hSw.1).cellAt 2 (by simp)); (simp only [List.getElem_toArray, List.getElem_cons_zero, List.getElem_cons_succ] at l0 l1 l2); go_simp; try with_reducible rfl
              try simp only [Act.put, List.getElem_toArray, List.getElem_cons_succ, List.getElem_cons_zero, List.setIfInBounds_toArray, List.set_cons_zero, List.set_cons_succ]
              refine wpAnyH_take (i := 52) (v := ?_) rfl (by kernel_rfl) (by kernel_rfl) (by kernel_rfl) (fun _ _ _ h => h) (Or.inl ⟨by kernel_rfl, ?_⟩) (by assumption) ?_
              rotate_left 1
              · intro w hSw; (try dsimp only at hSw); (have l0 := (yt.on hSw.1).cellAt 0 (by simp)); (have l1 := (yt.on hSw.1).cellAt 1 (by simp)); (have l2 := (yt.on hSw.1).cellAt 2 (by simp)); (simp only [List.getElem_toArray, List.getElem_cons_zero, List.getElem_cons_succ] at l0 l1 l2); go_simp; try with_reducible rfl
              try simp only [Act.put, List.getElem_toArray, List.getElem_cons_succ, List.getElem_cons_zero, List.setIfInBounds_toArray, List.set_cons_zero, List.set_cons_succ]
              refine wpAnyH_ready (rs := [51]) (by kernel_rfl) (by simp) ?_
              refine AllReadyH.cons rfl (fun K hK => ?_) AllReadyH.nil
              go_simp
              go_at_call 24
              refine (implBookingText_any xt _ HXT.out.1 (tabUp (tabUp HT.out H15.out) hHeld.1)).mono ?_
              rintro e u ⟨rfl, bu⟩
              have bu' := bu
              clear bu
              go_wp2_with fail
              refine hK.out _ _ ?_ (fun hNew => ?_)
              · exact ⟨bnext hHeld.1 bu' (Nat.le_refl _), trivial⟩
              clear hK K hHeld
              have hHeld := hNew
              clear hNew
              try simp only [Act.put, List.getElem_toArray, List.getElem_cons_succ, List.getElem_cons_zero, List.setIfInBounds_toArray, List.set_cons_zero, List.set_cons_succ]
              refine wpAnyH_ready (rs := [53]) (by kernel_rfl) (by simp) ?_
              refine AllReadyH.cons rfl (fun K hK => ?_) AllReadyH.nil
              go_simp
              go_at_call 25
              refine (specBookingText_any xt _ HXT.out.1).mono ?_
              rintro e u ⟨rfl, bu⟩
              have bu' := bu
              clear bu
              go_wp2_with fail
              refine hK.out _ _ ?_ (fun hNew => ?_)
              · exact ⟨bnext hHeld.1 bu' (Nat.le_refl _), trivial⟩
              clear hK K hHeld
              have hHeld := hNew
              clear hNew
              try simp only [Act.put, List.getElem_toArray, List.getElem_cons_succ, List.getElem_cons_zero, List.setIfInBounds_toArray, List.set_cons_zero, List.set_cons_succ]
              refine wpAnyH_take (i := 54) (v := ?_) rfl (by kernel_rfl) (by kernel_rfl) (by kernel_rfl) (fun _ _ _ h => h) (Or.inl ⟨by kernel_rfl, ?_⟩) (by assumption) ?_
              rotate_left 1
              · intro w hSw; (try dsimp only at hSw); go_simp; try with_reducible rfl
              try simp only [Act.put, List.getElem_toArray, List.getElem_cons_succ, List.getElem_cons_zero, List.setIfInBounds_toArray, List.set_cons_zero, List.set_cons_succ]
              refine wpAnyH_take (i := 55) (v := ?_) rfl (by kernel_rfl) (by kernel_rfl) (by kernel_rfl) (fun _ _ _ h => h) (Or.inl ⟨by kernel_rfl, ?_⟩) (by assumption) ?_
              rotate_left 1
              · intro w hSw; (try dsimp only at hSw); go_simp; try with_reducible rfl
              try simp only [Act.put, List.getElem_toArray, List.getElem_cons_succ, List.getElem_cons_zero, List.setIfInBounds_toArray, List.set_cons_zero, List.set_cons_succ]
              refine wpAnyH_take (i := 56) (v := ?_) rfl (by kernel_rfl) (by kernel_rfl) (by kernel_rfl) (fun _ _ _ h => h) (Or.inl ⟨by kernel_rfl, ?_⟩) (by assumption) ?_
              rotate_left 1
              · intro w hSw; (try dsimp only at hSw); go_simp; try with_reducible rfl
              try simp only [Act.put, List.getElem_toArray, List.getElem_cons_succ, List.getElem_cons_zero, List.setIfInBounds_toArray, List.set_cons_zero, List.set_cons_succ]
              refine wpAnyH_take (i := 57) (v := ?_) rfl (by kernel_rfl) (by kernel_rfl) (by kernel_rfl) (fun _ _ _ h => h) (Or.inl ⟨by kernel_rfl, ?_⟩) (by assumption) ?_
              rotate_left 1
              · intro w hSw; (try dsimp only at hSw); go_simp; try with_reducible rfl
              try simp only [Act.put, List.getElem_toArray, List.getElem_cons_succ, List.getElem_cons_zero, List.setIfInBounds_toArray, List.set_cons_zero, List.set_cons_succ]
              refine wpAnyH_take (i := 59) (v := ?_) rfl (by kernel_rfl) (by kernel_rfl) (by kernel_rfl) (fun _ _ _ h => h) (Or.inl ⟨by kernel_rfl, ?_⟩) (by assumption) ?_
              rotate_left 1
              · intro w hSw; (try dsimp only at hSw); go_simp; try with_reducible rfl
              try simp only [Act.put, List.getElem_toArray, List.getElem_cons_succ, List.getElem_cons_zero, List.setIfInBounds_toArray, List.set_cons_zero, List.set_cons_succ]
              refine wpAnyH_ready (rs := [58]) (by kernel_rfl) (by simp) ?_
              refine AllReadyH.cons rfl (fun K hK => ?_) AllReadyH.nil
              go_simp
              go_at_call 26
              refine (implValidBookings_any _ _ _ la _ _ ((sa.on hHeld.1).reads (by have := hHeld.1.size; omega)) (Nat.le_refl _) (by omega) Ga.out.1).mono ?_
              rintro e u ⟨rfl, bu⟩
              have bu' := bu
              clear bu
              go_wp2_with fail
              refine hK.out _ _ ?_ (fun hNew => ?_)
              · exact ⟨bnext hHeld.1 bu' (Nat.le_refl _), trivial⟩
              clear hK K hHeld
              have hHeld := hNew
              clear hNew
              try simp only [Act.put, List.getElem_toArray, List.getElem_cons_succ, List.getElem_cons_zero, List.setIfInBounds_toArray, List.set_cons_zero, List.set_cons_succ]
              refine wpAnyH_ready (rs := [60]) (by kernel_rfl) (by simp) ?_
              refine AllReadyH.cons rfl (fun K hK => ?_) AllReadyH.nil
              go_simp
              go_at_call 27
              refine (specValidBookings_any _ _ _ la _ _ ((sa.on hHeld.1).reads (by have := hHeld.1.size; omega)) (Nat.le_refl _) (by omega) Ga.out.1).mono ?_
              rintro e u ⟨rfl, bu⟩
              have bu' := bu
              clear bu
              go_wp2_with fail
              refine hK.out _ _ ?_ (fun hNew => ?_)
              · exact ⟨bnext hHeld.1 bu' (Nat.le_refl _), trivial⟩
              clear hK K hHeld
              have hHeld := hNew
              clear hNew
              try simp only [Act.put, List.getElem_toArray, List.getElem_cons_succ, List.getElem_cons_zero, List.setIfInBounds_toArray, List.set_cons_zero, List.set_cons_succ]
              refine wpAnyH_take (i := 61) (v := ?_) rfl (by kernel_rfl) (by kernel_rfl) (by kernel_rfl) (fun _ _ _ h => h) (Or.inl ⟨by kernel_rfl, ?_⟩) (by assumption) ?_
              rotate_left 1
              · intro w hSw; (try dsimp only at hSw); go_simp; try with_reducible rfl
              try simp only [Act.put, List.getElem_toArray, List.getElem_cons_succ, List.getElem_cons_zero, List.setIfInBounds_toArray, List.set_cons_zero, List.set_cons_succ]
              refine wpAnyH_take (i := 62) (v := ?_) rfl (by kernel_rfl) (by kernel_rfl) (by kernel_rfl) (fun _ _ _ h => h) (Or.inl ⟨by kernel_rfl, ?_⟩) (by assumption) ?_
              rotate_left 1
              · intro w hSw; (try dsimp only at hSw); go_simp; try with_reducible rfl
              try simp only [Act.put, List.getElem_toArray, List.getElem_cons_succ, List.getElem_cons_zero, List.setIfInBounds_toArray, List.set_cons_zero, List.set_cons_succ]
              refine wpAnyH_done (by kernel_rfl) ?_ _
              have HF := Lib.hid hHeld.1
              go_wp2_with fail
              go_meet
              exact ⟨rfl, HF.out⟩
            case rest => as_aux_lemma =>
              obtain ⟨rfl, bcut⟩ := hcut
              have zc := bcut.size
              clear yt se sf s5 s2
              replace sa := sa.on bcut
              replace ya := ya.on bcut
              replace s1 := s1.on bcut
              replace sb := sb.on bcut
              replace sc := sc.on bcut
              replace s6 := s6.on bcut
              have HC := Lib.hid (bnext H15.out bcut (Nat.le_refl _))
              clear bcut
              have R6 := s6.reads (B := wc.heap.size) (by omega)
              have Rc := sc.reads (B := wc.heap.size) (by omega)
              clear s6 sc
              go_wp2
              go_loopw [29, 30] (fun q i wr => ∃ (k : Nat) (z : Int), k ≤ m5 ∧ i = .int .i64 (k : Int) ∧ q = .int .i64 z ∧ (∀ (j : Nat) (u : ByteArray), k = j + 1 → (debtorsN lc xc).1[j]? = some u → z = bal lc u xc) ∧ Below wc.heap.size wc wr) (fun _ i _ => m5 - (intOf i).toNat)
              case atStart => exact ⟨0, 0, Nat.zero_le _, rfl, rfl, fun j u hj => by omega, Below.refl _ _⟩
              case round =>
                obtain ⟨k, z, hk, rfl, rfl, hz, hbel⟩ := hrel
                have HZ := Lib.hid hz
                have HBl := Lib.hid hbel
                have zr := hbel.size
                clear hz hbel
                by_cases hlt : k < m5
                · as_aux_lemma =>
                    obtain ⟨t, b, off, he, rfl, hb, c1⟩ := str_at (R6.on (Nat.le_refl _) HBl.out) hlt
                    obtain ⟨hb0, hb1, hts, hdn⟩ := debt_at he
                    have hts2 : t.size ≤ 1048576 := by omega
                    have HE := Lib.hid he
                    have HB0' := Lib.hid hb0
                    have hlast : ∀ j, k = j + 1 → bal lc t xc ≤ z := fun j hj => by
                      have hjl : j < (debtorsN lc xc).1.length := by have := (List.getElem?_eq_some_iff.1 he).1; omega
                      have h1 := HZ.out j _ hj (List.getElem?_eq_getElem hjl)
                      rw [h1]
                      exact hdn j _ hj (List.getElem?_eq_getElem hjl)
                    have HLast := Lib.hid hlast
                    have hk0 : (0 : Int) ≤ k := by omega
                    have hk1 : (k : Int) < m5 := by omega
                    clear he hb0 hdn hlast
                    go_wp2_with fail
                    refine (implBalanceOn_any _ _ _ lc t xc _ _ ((Rc.on (Nat.le_refl _) HBl.out).more zr) (Nat.le_refl _) (by omega) Gc.out.1 hts2 hxc).mono ?_
                    rw [HB0'.out]
                    rintro e w1 ⟨rfl, b1⟩
                    have HB1 := Lib.hid (bnext HBl.out b1 (Nat.le_refl _))
                    have HZ2 := Lib.hid (show ∀ (j : Nat) (u : ByteArray), k + 1 = j + 1 → (debtorsN lc xc).1[j]? = some u → bal lc t xc = bal lc u xc from fun j u hj hu => by
                      obtain rfl : k = j := by omega
                      rw [HE.out] at hu; injection hu with hu; rw [hu])
                    clear b1 c1
                    generalize hbt : bal lc t xc = bt at *
                    clear hbt
                    have hlow : decide (bt < 1) = false := decide_eq_false (by omega)
                    rcases Nat.eq_zero_or_pos k with h0 | h0
                    · have hg0 : decide ((0 : Int) < (k : Int)) = false := decide_eq_false (by omega)
                      have hg1 : decide (0 < k) = false := decide_eq_false (by omega)
                      clear h0
                      go_wp2
                      go_roundw
                      case rel => exact ⟨k + 1, bt, by omega, by go_num, rfl, HZ2.out, HB1.out⟩
                      case measure => simp [intOf]; omega
                    · have hle : bt ≤ z := HLast.out (k - 1) (by omega)
                      have hgt : decide (z < bt) = false := decide_eq_false (by omega)
                      go_wp2
                      go_roundw
                      case rel => exact ⟨k + 1, bt, by omega, by go_num, rfl, HZ2.out, HB1.out⟩
                      case measure => simp [intOf]; omega
                · have HD := Lib.hid (bnext HC.out HBl.out (Nat.le_refl _))
                  replace sa := sa.on HBl.out
                  replace s1 := s1.on HBl.out
                  replace sb := sb.on HBl.out
                  replace ya := ya.on HBl.out
                  clear R6 Rc HZ
                  go_upto_region 26 with fail
                  as_aux_lemma =>
                  go_cut [221] (fun sv wx => sv = .bool false ∧ Below wr.heap.size wr wx)
                  case first => as_aux_lemma =>
                    rcases hq : ((balOn lb tb xb).2 == 0) with _ | _
                    · go_wp2_with fail
                      go_meet
                      exact ⟨rfl, Below.refl _ _⟩
                    · have hiff := owed_iff (beq_iff_eq.1 hq)
                      go_wp2_with fail
                      go_meet
                      exact ⟨rfl, Below.refl _ _⟩
                  case rest => as_aux_lemma =>
                    obtain ⟨rfl, bcut⟩ := hcut
                    have zd := bcut.size
                    have HD2 := Lib.hid (bnext HD.out bcut (Nat.le_refl _))
                    replace sa := sa.on bcut
                    replace s1 := s1.on bcut
                    replace sb := sb.on bcut
                    replace ya := ya.on bcut
                    clear bcut HD
                    go_upto_if 223 with fail
                    go_cut [] (fun wx => Below wc.heap.size wc wx)
                    case first => as_aux_lemma =>
                      rcases hq : ((owedF lb tb xb).2 == 0) with _ | _
                      · go_wp2_with fail
                        go_meet
                        exact Below.refl _ _
                      · obtain ⟨⟨hq1, hqd, hd2⟩, hbq, hb1, hprev⟩ := owed_zero' (beq_iff_eq.1 hq)
                        have HBQ := Lib.hid hbq
                        have HPR := Lib.hid hprev
                        have hq0 : I64 (owedF lb tb xb).1 := ⟨by omega, by omega⟩
                        clear hbq hprev
                        go_wp2_with fail
                        refine (implBalanceOn_any _ _ _ lb tb (owedF lb tb xb).1 _ _ (sb.reads (by omega)) (Nat.le_refl _) (by omega) Gb.out.1 htb2 hq0).mono ?_
                        rw [HBQ.out]
                        rintro e w1 ⟨rfl, b1⟩
                        have z1 := b1.size
                        have HB1 := Lib.hid b1
                        replace sb := sb.on b1
                        clear b1
                        have hlow : decide (bal lb tb (owedF lb tb xb).1 < 1) = false := decide_eq_false (by omega)
                        have hgt : decide (xb < (owedF lb tb xb).1) = false := decide_eq_false (by omega)
                        rcases Int.lt_or_le 0 (owedF lb tb xb).1 with h0 | h0
                        · obtain ⟨hp1, hp2⟩ := HPR.out h0
                          have hwq : IntKind.i64.wrap ((owedF lb tb xb).1 - 1) = (owedF lb tb xb).1 - 1 := by rw [IntKind.wrap_i64]; omega
                          have HP1 := Lib.hid hp1
                          have hle0 : decide (0 < bal lb tb ((owedF lb tb xb).1 - 1)) = false := decide_eq_false (by omega)
                          clear hp1
                          go_wp2_with fail
                          refine (implBalanceOn_any _ _ _ lb tb ((owedF lb tb xb).1 - 1) _ _ (sb.reads (by omega)) (Nat.le_refl _) (by omega) Gb.out.1 htb2 ⟨by omega, by omega⟩).mono ?_
                          rw [HP1.out]
                          rintro e w2 ⟨rfl, b2⟩
                          have HB2 := Lib.hid (bnext HB1.out b2 (Nat.le_refl _))
                          clear b2
                          go_wp2_with fail
                          go_meet
                          exact HB2.out
                        · have hg0 : decide ((0 : Int) < (owedF lb tb xb).1) = false := decide_eq_false (by omega)
                          clear h0
                          go_wp2_with fail
                          go_meet
                          exact HB1.out
                    case rest => as_aux_lemma =>
                      have HD3 := Lib.hid (bnext HD2.out hcut (Nat.le_refl _))
                      have ze := hcut.size
                      replace sa := sa.on hcut
                      replace s1 := s1.on hcut
                      replace ya := ya.on hcut
                      clear hcut sb HD2
                      rcases hq : ((bookF la xa).2 == 0) with _ | _
                      · have hq2 : ((bookF la xa).2 != 0) = true := by simp [bne, hq]
                        go_wp2
                        go_ret
                        exact ⟨rfl, HD3.out⟩
                      · have hq2 : ((bookF la xa).2 != 0) = false := by simp [bne, hq]
                        obtain ⟨hok, hb1, hb2, hbd, had, hday, hcs⟩ := book_zero (beq_iff_eq.1 hq)
                        have HOK := Lib.hid hok
                        have HB1' := Lib.hid hb1
                        have HB2' := Lib.hid hb2
                        have hcs2 : xa.client.size ≤ 1048576 := by omega
                        have hdi : I64 xa.day := ⟨by omega, by omega⟩
                        have HSM := Lib.hid (bookF_small Ga.out.1 HXA.out.2)
                        clear hok hb1 hb2 hq
                        have k0 := ya.cellAt 0 (by simp)
                        have k1 := ya.cellAt 1 (by simp)
                        simp only [List.getElem_toArray, List.getElem_cons_zero, List.getElem_cons_succ] at k0 k1
                        go_wp2_with fail
                        refine (implBalanceOn_any _ _ _ la xa.client xa.day _ _ (sa.reads (by omega)) (Nat.le_refl _) (by omega) Ga.out.1 hcs2 hdi).mono ?_
                        rw [HB1'.out]
                        rintro e w1 ⟨rfl, b1⟩
                        have z1 := b1.size
                        have HF1 := Lib.hid (bnext HD3.out b1 (Nat.le_refl _))
                        replace s1 := s1.on b1
                        replace ya := ya.on b1
                        clear b1 k0 k1
                        have k0 := ya.cellAt 0 (by simp)
                        have k1 := ya.cellAt 1 (by simp)
                        simp only [List.getElem_toArray, List.getElem_cons_zero, List.getElem_cons_succ] at k0 k1
                        go_wp2_with fail
                        refine (implBalanceOn_any _ _ _ (bookF la xa).1 xa.client xa.day _ _ (s1.reads (by omega)) (Nat.le_refl _) (by omega) HSM.out hcs2 hdi).mono ?_
                        rw [HB2'.out]
                        rintro e w2 ⟨rfl, b2⟩
                        have z2 := b2.size
                        have HF2 := Lib.hid (bnext HF1.out b2 (Nat.le_refl _))
                        replace s1 := s1.on b2
                        replace ya := ya.on b2
                        clear b2 k0 k1
                        have k2 := ya.cellAt 2 (by simp)
                        simp only [List.getElem_toArray, List.getElem_cons_zero, List.getElem_cons_succ] at k2
                        generalize bal la xa.client xa.day = bl0 at *
                        have hwa : IntKind.i64.wrap (bl0 + xa.amount - bl0) = xa.amount := by rw [IntKind.wrap_i64]; omega
                        have hwb : IntKind.i64.wrap xa.amount = xa.amount := by rw [IntKind.wrap_i64]; omega
                        go_wp2_with fail
                        refine (implValidBookings_any _ _ _ (bookF la xa).1 _ _ (s1.reads (by omega)) (Nat.le_refl _) hm1 HSM.out).mono ?_
                        rw [HOK.out]
                        rintro e w3 ⟨rfl, b3⟩
                        have HF3 := Lib.hid (bnext HF2.out b3 (Nat.le_refl _))
                        clear b3
                        go_wp2
                        go_ret
                        exact ⟨rfl, HF3.out⟩

end Go.Proofs.YtjmlcobbjpmjpaaGreatDoor.lawBalances
