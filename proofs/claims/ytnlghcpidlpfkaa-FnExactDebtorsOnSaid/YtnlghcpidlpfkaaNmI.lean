/- The names of all clients, in the program: collected, sorted, each once. -/
import Derived.Test.YtnlghcpidlpfkaaNmP
import Derived.Test.YtnlghcpidlpfkaaOneF
import Derived.Test.YtnlghcpidlpfkaaSrcP
import Derived.Test.YtnlghcpidlpfkaaShelf
set_option linter.unusedVariables false
set_option linter.unusedSimpArgs false
namespace Go.Proofs.Ytnlghcpidlpfkaa
open Go.RowKit Go.Lib Go.Sort

theorem info_str : (Try.prog.info? 9).map (fun i => (i.zero, i.size, i.bytes)) = some (some (.string ⟨#[]⟩), 1, 16) := by kernel_rfl
theorem Sl.cut {w : World} {lo hi n k c : Nat} {t : TypeId} {A : Option Addr} {xs : List Value} (h : Sl w lo hi t 1 A n c xs) (hk : k ≤ n) : Sl w lo hi t 1 A k c (xs.take k) := by
  have hl := h.len
  refine ⟨⟨by rw [List.length_take]; omega, ?_⟩, h.2⟩
  rcases h.1.2 with ⟨hn, h0⟩ | ⟨g, cap, cur, h', hb, hg, hnc, hm, hcs, ht⟩
  · injection hn with e1 e2 e3
    subst e1 e3
    exact .inl ⟨by rw [show k = 0 by omega], by omega⟩
  · injection h' with e1 e2 e3
    subst e1 e3
    exact .inr ⟨g, c, cur, rfl, hb, hg, by omega, hm, hcs, by rw [← ht, List.take_take, Nat.mul_one, Nat.mul_one, Nat.min_eq_left hk]⟩
theorem below_grown {w w' : World} {g lo : Nat} (h : w.grownBy w' (some g)) (hg : lo ≤ g) (hlo : lo ≤ w.heap.size) : Below lo w w' := ⟨h.os, h.tape, h.output, h.size, fun k hk => h.block k (by omega) (by intro e; injection e with e; omega)⟩

set_option maxHeartbeats 4000000 in
set_option maxRecDepth 100000 in
theorem clientsBooked_any (A : Option Addr) (n c B : Nat) (l : List Bk) (w : World) (h : Reads w B 3 A n (bks l)) (hB : B ≤ w.heap.size) (hn : n ≤ 1048576) :
    Calls Try.prog 138 #[.slice A n c] w fun e w' => ∃ A' m d, e = .returned (.slice A' m d) ∧ Sl w' w.heap.size w'.heap.size 9 1 A' m d (strs (namesB l)) ∧ Below w.heap.size w w' := by
  have hl := Lib.hid (bks_len h)
  have HSL0 := Lib.hid (Sl.made w 9 1)
  go_enter Try.func138, Try.ntmps138
  go_wp2
  go_loopw [3, 9] (fun o i wr => ∃ (k : Nat) (A' : Option Addr) (d : Nat), k ≤ n ∧ i = .int .i64 (k : Int) ∧ o = .slice A' k d ∧ Sl wr w.heap.size wr.heap.size 9 1 A' k d (strs ((l.take k).map (·.client))) ∧ Below w.heap.size w wr) (fun _ i _ => n - (intOf i).toNat)
  case atStart => exact ⟨0, _, 0, Nat.zero_le _, rfl, rfl, by simpa [strs] using HSL0.out.wide (Nat.le_refl _) (hi' := (w.alloc (.cells #[] 9)).heap.size) (by simp), (Below.refl _ _).alloc (Nat.le_refl _) _⟩
  case round =>
    obtain ⟨k, A', d, hk, rfl, rfl, hsl, hbel⟩ := hrel
    have HSL := Lib.hid hsl
    have HB := Lib.hid hbel
    have zr := hbel.size
    clear hsl hbel
    by_cases hlt : k < n
    · obtain ⟨x, b, off, he, rfl, hb, c0, c1, c2⟩ := bk_at (h.on hB HB.out) hlt
      have hx1 : strs ((l.take (k + 1)).map (·.client)) = strs ((l.take k).map (·.client)) ++ [.string x.client] := by rw [List.take_add_one, he]; simp [strs]
      have HX := Lib.hid hx1
      obtain ⟨wv, hwv⟩ : ∃ z, wr.alloc (.cells #[.int .i64 x.day, .string x.client, .int .i64 x.amount] 45) = z := ⟨_, rfl⟩
      have bv : Below wr.heap.size wr wv := by rw [← hwv]; exact (Below.refl _ _).alloc (Nat.le_refl _) _
      have yv : Blk wv wr.heap.size 45 #[.int .i64 x.day, .string x.client, .int .i64 x.amount] := by rw [← hwv]; exact Blk.new _ _ _
      have v1 := yv.cellAt 1 (by simp)
      simp only [List.getElem_toArray, List.getElem_cons_zero, List.getElem_cons_succ] at v1
      have zv := bv.size
      have HSLv := Lib.hid (HSL.out.on bv)
      have HBv := Lib.hid (bnext HB.out bv (by omega))
      clear he hx1 bv yv
      go_wp2_with (at_builtin; clear hwv; refine wpList_oneF rfl _ _ 79 rfl 9 _ 1 16 Try.underlying79 info_str rfl (by decide) (by decide) HSLv.out (by omega) rfl [.string x.client] _ rfl rfl rfl (fun u hu => by simp at hu; subst hu; rfl) (by omega) ?_; intro A7 d7 w7 sl7 b7 z7 f7 g7; have HSL7 := Lib.hid sl7; have HB7 := Lib.hid b7; clear sl7 b7 f7 g7)
      go_roundw
      case rel => exact ⟨k + 1, A7, d7, by omega, by go_num, rfl, by rw [HX.out]; exact HSL7.out, HBv.out.trans HB7.out⟩
      case measure => simp [intOf]; omega
    · obtain rfl : k = n := by omega
      have hall : l.take k = l := List.take_of_length_le (by have := hl.out; omega)
      rcases Nat.eq_zero_or_pos k with h0 | h0
      · obtain rfl := h0
        have hnil : l = [] := List.length_eq_zero_iff.1 hl.out
        go_wp2_with fail
        refine (Try.slices_Sort_string_none _ _ _).mono ?_
        rintro e w' ⟨rfl, hw⟩
        rw [hw]
        clear hw
        go_wp2_with fail
        refine (Try.slices_Compact_string_empty _ _ _).mono ?_
        rintro e w' ⟨rfl, hw⟩
        rw [hw]
        clear hw
        go_wp2
        go_ret
        refine ⟨_, 0, _, rfl, ?_, HB.out⟩
        have := HSL.out
        rw [hnil] at this ⊢
        simpa [namesB, uniqB, sortB, Lib.compact, Lib.compactUpTo, strs] using this
      · rcases HSL.out.form with ⟨_, h1, _⟩ | ⟨g, cur, rfl, hg1, hg2, hblk, hnc, hcs, ht⟩
        · omega
        · rw [hall, strs_enc, Nat.mul_one] at ht
          have hmx : d ≤ maxLen := by
            rcases HSL.out.1.2 with ⟨hn', h1⟩ | ⟨g', cap, cur', h', _, _, _, h5, _⟩
            · omega
            · injection h' with _ _ e3; rw [e3]; exact h5
          have hll : ((l.map fun b : Bk => b.client).map bl).length = k := by simp; exact hl.out
          have hH : Holds encStr wr g 0 ((l.map fun b : Bk => b.client).map bl).toArray := holds_of_block hblk (by rw [hll]; exact ht)
          have hsort := Try.slices_Sort_string g 0 d ((l.map fun b : Bk => b.client).map bl) wr hH hblk.lt (by rw [hll]; omega)
          rw [hll] at hsort
          have HS := Lib.hid hsort
          have HO := Lib.hid (fun (q : Nat) (os : Array Obj) => ownsRow_sorted (n := q) (os := os) (e := 9) (ss := (l.map fun b : Bk => b.client).map bl) (ts := sortB (l.map fun b : Bk => b.client)) (base := w.heap.size) (by rw [sortB_len]; simp) hg1 hblk (by rw [hll]; exact hnc) hmx hcs)
          clear hsort hH ht hblk
          go_wp2_with fail
          refine HS.out.mono ?_
          rintro e w5 ⟨rfl, q, os, hw5⟩
          have b5 : Below w.heap.size wr w5 := by rw [hw5]; exact below_grown (grownBy_sorted _) hg1 zr
          have HB5 := Lib.hid (HB.out.trans b5)
          have o5 := HO.out q os
          have e5 : grow (putRow encStr (Sort.ahead wr q) g 0 (sortB (l.map fun b : Bk => b.client)).toArray) os = w5 := hw5.symm
          rw [e5, hll] at o5
          have z5 := b5.size
          have sl5 : Sl w5 w.heap.size w5.heap.size 9 1 (some ⟨g, 0, none⟩) k d ((sortB (l.map fun b : Bk => b.client)).map encStr) := ⟨o5, fun ad had => by injection had with had; subst had; simp only; omega⟩
          clear hw5 e5 o5 b5
          obtain ⟨cur5, hblk5, hcs5, ht5⟩ : ∃ cur5, Blk w5 g 9 cur5 ∧ cur5.size = d * 1 ∧ cur5.toList.take (k * 1) = (sortB (l.map fun b : Bk => b.client)).map encStr := by
            rcases sl5.form with ⟨h1, _⟩ | ⟨g', cur5, h1, _, _, h2, _, h3, h4⟩
            · cases h1
            · injection h1 with h1; injection h1 with h1; subst h1; exact ⟨cur5, h2, h3, h4⟩
          have hsl : (sortB (l.map fun b : Bk => b.client)).length = k := by rw [sortB_len]; simp; exact hl.out
          have hH5 : Holds encStr w5 g 0 (sortB (l.map fun b : Bk => b.client)).toArray := holds_of_block hblk5 (by rw [hsl, ← ht5, Nat.mul_one])
          have hcmp := Try.slices_Compact_string g 0 d (sortB (l.map fun b : Bk => b.client)) w5 hH5 (by omega) (by omega)
          rw [hsl] at hcmp
          have hcl : (Lib.compact (sortB (l.map fun b : Bk => b.client))).length ≤ k := by
            have := (uniqB_facts (l.map fun b : Bk => b.client)).2.2
            unfold uniqB at this
            rw [List.length_map, List.length_map, hl.out] at this
            exact this
          have HC := Lib.hid hcmp
          have HO5 := Lib.hid (fun (q : Nat) (ts : List (List UInt8)) (hts : ts.length = (sortB (l.map fun b : Bk => b.client)).length) => ownsRow_sorted (n := q) (os := #[]) (e := 9) (ss := sortB (l.map fun b : Bk => b.client)) (ts := ts) (base := w.heap.size) hts hg1 hblk5 (by omega) hmx hcs5)
          have HSL := Lib.hid hsl
          have hg5 := hblk5.lt
          clear hcmp hH5 ht5 hblk5 sl5 hsl HS HO
          go_wp2_with fail
          refine HC.out.mono ?_
          rintro e w6 ⟨rfl, q2, hw6⟩
          have b6 : Below w.heap.size w5 w6 := by
            rw [hw6, ← grow_empty (putRow encStr (Sort.ahead w5 q2) g 0 _)]
            exact below_grown (grownBy_sorted _) hg1 (by omega)
          have HB6 := Lib.hid (HB5.out.trans b6)
          have z6 := b6.size
          have o6 := HO5.out q2 (Lib.compact (sortB (l.map fun b : Bk => b.client)) ++ List.replicate (k - (Lib.compact (sortB (l.map fun b : Bk => b.client))).length) []) (by rw [List.length_append, List.length_replicate, HSL.out]; omega)
          rw [grow_empty, ← hw6, HSL.out] at o6
          have sl6 : Sl w6 w.heap.size w6.heap.size 9 1 (some ⟨g, 0, none⟩) k d ((Lib.compact (sortB (l.map fun b : Bk => b.client)) ++ List.replicate (k - (Lib.compact (sortB (l.map fun b : Bk => b.client))).length) []).map encStr) := ⟨o6, fun ad had => by injection had with had; subst had; simp only; omega⟩
          have HS6 := Lib.hid (show Sl w6 w.heap.size w6.heap.size 9 1 (some ⟨g, 0, none⟩) (Lib.compact (sortB (l.map fun b : Bk => b.client))).length d (strs (namesB l)) by
            have := sl6.cut hcl
            rw [List.map_append, List.take_left' (by simp)] at this
            unfold namesB uniqB
            rw [strs_unbl]
            exact this)
          clear hw6 b6 o6 sl6 HC HO5
          go_wp2
          go_ret
          exact ⟨_, _, _, rfl, HS6.out, HB6.out⟩
end Go.Proofs.Ytnlghcpidlpfkaa
