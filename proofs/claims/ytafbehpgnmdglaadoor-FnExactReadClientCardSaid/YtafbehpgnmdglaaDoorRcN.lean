/- Two numbers read from a text, as the program does it. -/
import Derived.Test.YtafbehpgnmdglaaDoorRcP
import Derived.Test.YtafbehpgnmdglaaDoorNum
import Derived.Test.YtafbehpgnmdglaaDoorSpi
import Derived.Test.YtafbehpgnmdglaaDoorLogB
set_option linter.unusedVariables false
set_option linter.unusedSimpArgs false
namespace Go.Proofs.YtafbehpgnmdglaaDoor
open Go.RowKit Go.Lib

def numsF (s : ByteArray) : Option (Int × Int) := match splitS 45 s with
  | [f, t] => if (isDec f.data.toList && isDec t.data.toList) = true then some (numS f.data.toList, numS t.data.toList) else none
  | _ => none
theorem numsF_len {s : ByteArray} (h : (splitS 45 s).length ≠ 2) : numsF s = none := by
  unfold numsF
  split
  · rename_i e; rw [e] at h; simp at h
  · rfl
theorem numsF_two {s f t : ByteArray} (h : splitS 45 s = [f, t]) : numsF s = if (isDec f.data.toList && isDec t.data.toList) = true then some (numS f.data.toList, numS t.data.toList) else none := by simp [numsF, h]
/-- strings.SplitN at one byte, three parts at most: two parts just where there are two. -/
theorem splitN_any (s : ByteArray) (c : UInt8) (m : Int) (w : World) (hs : s.size ≤ 1048576) (hm : w.cell? ⟨0, 0, none⟩ = some (.int .i64 m)) :
    Calls Tryd.prog 112 #[.string s, .string ⟨#[c]⟩, .int .i64 3] w fun e w' => ∃ (n N : Nat), e = .returned (.slice (some ⟨w.heap.size, 0, none⟩) n N) ∧ Below w.heap.size w w' ∧ ((n = 2 ∧ ∃ f t, splitS c s = [f, t] ∧ w'.cell? ⟨w.heap.size, 0, none⟩ = some (.string f) ∧ w'.cell? ⟨w.heap.size, 1, none⟩ = some (.string t)) ∨ (n ≠ 2 ∧ n ≤ 3 ∧ (splitS c s).length ≠ 2)) := by
  have h2 := splitB_two c s (min 3 (s.size + 1) - 1) rfl
  have hle : (splitB ⟨#[c]⟩ 0 (min 3 (s.size + 1) - 1) s).length ≤ 3 := by
    have h := splitB_data ⟨#[c]⟩ 0 (min 3 (s.size + 1) - 1) s
    have hx := of_data h
    rw [hx, List.length_map, show (⟨#[c]⟩ : ByteArray).data.toList = [c] from rfl]
    by_cases hc : s.data.toList.count c ≤ min 3 (s.size + 1) - 1
    · rw [splitK_ge c _ _ hc, splitL_len]
      have : min 3 (s.size + 1) ≤ 3 := Nat.min_le_left _ _
      omega
    · rw [splitK_len c _ _ (by omega)]
      have : min 3 (s.size + 1) ≤ 3 := Nat.min_le_left _ _
      omega
  refine (Tryd.strings_SplitN s ⟨#[c]⟩ 3 m w (by omega) hm (Nat.le_refl 1) (by decide) (by decide)).mono ?_
  rintro e w' ⟨rfl, rfl⟩
  refine ⟨_, _, rfl, (Below.refl _ _).alloc (Nat.le_refl _) _, ?_⟩
  by_cases hl : (splitB ⟨#[c]⟩ 0 (min 3 (s.size + 1) - 1) s).length = 2
  · obtain ⟨e1, e2⟩ := h2.1 hl
    obtain ⟨f, t, e3⟩ := two_of e2
    refine .inl ⟨hl, f, t, e3, ?_, ?_⟩
    · rw [(Blk.new w 9 _).cell, e1, e3]; simp [cellsOf]
    · rw [(Blk.new w 9 _).cell, e1, e3]; simp [cellsOf]
  · exact .inr ⟨hl, hle, h2.2 hl⟩

set_option maxHeartbeats 4000000 in
set_option maxRecDepth 100000 in
theorem readNumbers_any (s : ByteArray) (m : Int) (w : World) (hs : s.size ≤ 1048576) (hm : w.cell? ⟨0, 0, none⟩ = some (.int .i64 m)) (ht : TabP w) (hv : SynP w) :
    Calls Tryd.prog 88 #[.string s, .string ⟨#[45]⟩, .int .i64 2] w fun e w' =>
      (∃ p q g d, numsF s = some (p, q) ∧ e = .returned (.tuple #[.slice (some ⟨g, 0, none⟩) 2 d, .bool true]) ∧ w'.cell? ⟨g, 0, none⟩ = some (.int .i64 p) ∧ w'.cell? ⟨g, 1, none⟩ = some (.int .i64 q) ∧ Below w.heap.size w w') ∨
      (numsF s = none ∧ e = .returned (.tuple #[.slice none 0 0, .bool false]) ∧ Below w.heap.size w w') := by
  have HT := Lib.hid ht
  have HV := Lib.hid hv
  have HSP := Lib.hid (splitN_any s 45 m w hs hm)
  clear ht hv hm
  go_enter Tryd.func88, Tryd.ntmps88
  go_wp2_with fail
  refine HSP.out.mono ?_
  rintro e w1 ⟨n, N, rfl, b1, ⟨rfl, f, t, he, c0, c1⟩ | ⟨hne, hle, hl⟩⟩
  · have HB := Lib.hid b1
    have hz1 := b1.size
    have HE := Lib.hid (numsF_two he)
    have hfs : f.size ≤ 1048576 ∧ t.size ≤ 1048576 := by
      have h1 := congrArg List.length (join_split he)
      simp only [List.map_cons, List.map_nil, joinL, List.length_append, List.length_cons, data_len] at h1
      omega
    have acc0 := Acc.made w1 2 1
    clear b1 he
    go_wp2
    go_loopw [9, 26] (fun out i wr => ∃ (k : Nat) (A' : Option Addr) (q d' : Nat), k ≤ 2 ∧ i = .int .i64 k ∧ out = .slice A' q d' ∧ q = k ∧ (1 ≤ k → isDec f.data.toList = true) ∧ (2 ≤ k → isDec t.data.toList = true) ∧ Acc w1.heap.size w1.heap.size 2 1 w1 wr A' q d' (ints ([numS f.data.toList, numS t.data.toList].take k))) (fun _ i _ => 2 - (RowKit.intOf i).toNat)
    case atStart => exact ⟨0, _, _, _, Nat.zero_le _, rfl, rfl, rfl, fun h => by omega, fun h => by omega, acc0⟩
    case round =>
      obtain ⟨k, A', q, d', hk, rfl, rfl, hqk, h1, h2, hacc⟩ := hrel
      have HA := Lib.hid hacc
      have H1 := Lib.hid h1
      have H2 := Lib.hid h2
      have hbel := HA.out.below (B := w1.heap.size) (Nat.le_refl _) (Nat.le_refl _)
      clear acc0 hacc h1 h2
      by_cases hlt : k < 2
      · obtain ⟨x, hx, hcx, hxs⟩ : ∃ x, (k = 0 ∧ x = f ∨ k = 1 ∧ x = t) ∧ wr.cell? ⟨w.heap.size, k, none⟩ = some (.string x) ∧ x.size ≤ 1048576 := by
          rcases (show k = 0 ∨ k = 1 by omega) with rfl | rfl
          · exact ⟨f, .inl ⟨rfl, rfl⟩, cell_on hbel c0, hfs.1⟩
          · exact ⟨t, .inr ⟨rfl, rfl⟩, cell_on hbel c1, hfs.2⟩
        have HX := Lib.hid hx
        have hi0 : (0 : Int) ≤ k := by omega
        have hi1 : (k : Int) < 2 := by omega
        have hq4 : q ≤ 4 := by omega
        have HQ := Lib.hid hqk
        have HB2 := Lib.hid (bnext HB.out hbel (Nat.le_refl _))
        clear hx hqk hbel
        go_wp2_with fail
        refine (readDecimal_any x _ (by omega) (tabUp HT.out HB2.out) (synUp HV.out HB2.out)).mono ?_
        rintro e w2 ⟨rfl, b2⟩
        have HA2 := Lib.hid (HA.out.on b2 (Nat.le_refl _))
        have HF := Lib.hid (bnext HB2.out b2 (Nat.le_refl _))
        clear b2 hcx
        rcases hd : isDec x.data.toList with _ | _
        · have HO := Lib.hid (show numsF s = none by
            rw [HE.out]
            rcases HX.out with ⟨_, rfl⟩ | ⟨_, rfl⟩
            · rw [hd, Bool.false_and]; rfl
            · rw [hd, Bool.and_false]; rfl)
          rw [readN_no hd]
          clear hd
          go_wp2
          go_ret2
          exact .inr ⟨HO.out, rfl, HF.out⟩
        · have HD := Lib.hid hd
          rw [readN_yes hd]
          clear hd
          obtain ⟨nx, hnx⟩ : ∃ y, numS x.data.toList = y := ⟨_, rfl⟩
          rw [hnx]
          have HN := Lib.hid hnx
          clear hnx
          go_wp2_with (at_builtin; refine wpList_acc rfl _ _ 70 rfl 2 _ 1 8 Tryd.underlying70 info_i64L rfl (by decide) (by decide) HA2.out (Nat.le_refl _) rfl [.int .i64 nx] rfl rfl (fun u hu => by simp at hu; subst hu; rfl) (by omega) ?_; intro A3 d3 w9 hacc2; have HA9 := Lib.hid hacc2; clear hacc2)
          go_roundw
          case rel =>
            have hA9 := HA9.out
            rw [← HN.out] at hA9
            rcases HX.out with ⟨rfl, rfl⟩ | ⟨rfl, rfl⟩
            · exact ⟨1, _, _, _, by omega, by go_num, rfl, by rw [HQ.out], fun _ => HD.out, fun h => by omega, hA9⟩
            · exact ⟨2, _, _, _, by omega, by go_num, rfl, by rw [HQ.out], fun _ => H1.out (by omega), fun _ => HD.out, hA9⟩
          case measure => simp [RowKit.intOf]; omega
      · obtain rfl : k = 2 := by omega
        subst hqk
        have HO := Lib.hid (show numsF s = some (numS f.data.toList, numS t.data.toList) by rw [HE.out, H1.out (by omega), H2.out (by omega)]; rfl)
        have HF := Lib.hid (bnext HB.out hbel (Nat.le_refl _))
        have hsl := HA.out.sl (lo := w1.heap.size) (Nat.le_refl _) (Nat.le_refl _)
        obtain ⟨g, rfl, _, _, _⟩ := hsl.lt (by omega)
        have HS := Lib.hid hsl
        clear hbel hsl
        go_wp2
        go_ret2
        exact .inl ⟨_, _, g, d', HO.out, rfl, HS.out.cellAt 0 (by omega), HS.out.cellAt 1 (by omega), HF.out⟩
  · have HB := Lib.hid b1
    have HO := Lib.hid (numsF_len hl)
    have hq : ((n : Int) != 2) = true := by rw [bne_iff_ne]; omega
    have hq2 : ((n : Int) == 2) = false := by rw [beq_eq_false_iff_ne]; omega
    clear b1 hl
    go_wp2
    go_ret2
    exact .inr ⟨HO.out, rfl, HB.out⟩
end Go.Proofs.YtafbehpgnmdglaaDoor
