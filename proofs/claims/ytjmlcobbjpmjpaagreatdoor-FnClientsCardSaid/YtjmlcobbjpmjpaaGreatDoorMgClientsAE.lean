/- Clients: the client of a name. Numbers read from texts, as the program does it. strings.Split at one byte, as the program calls it: the parts of a text. One step of the reading of a log: the plain law. One element appended to a slice of the call's own, at whatever place of the walk. Parts of the reference's reading of a log. A line of a log, as the program reads it. strings.Cut at one byte, as the program calls it. -/
import Derived.Test.YtjmlcobbjpmjpaaGreatDoorMgClientsAB
import Derived.Test.YtjmlcobbjpmjpaaGreatDoorMgClientsAA
import Derived.Lib.ParseIntBTie
import Derived.Lib.AtoiErrMem
import Derived.Test.YtjmlcobbjpmjpaaGreatDoorShelf
import Derived.Deep.RegionHeld3
import Derived.IntWalk
set_option linter.unusedVariables false
set_option linter.unusedSimpArgs false
namespace Go.Proofs.YtjmlcobbjpmjpaaGreatDoor
open Go.RowKit

set_option maxHeartbeats 2000000 in
theorem specClientOf_any (A : Option Addr) (n c : Nat) (l : List Cl) (s : ByteArray) (B : Nat) (w : World) (h : Reads w B 5 A n (cls l)) (hB : B ≤ w.heap.size) (hn : n ≤ 1048576) (hsm : ∀ x ∈ l, x.small) (hgd : ∀ x ∈ l, x.good) (hs : s.size ≤ 1048576) :
    Calls Tryz.prog 36 #[.slice A n c, .string s] w fun e w' => e = .returned (.tuple #[.agg #[.string (clientF l s).1.name, .int .i64 (clientF l s).1.station, .int .i64 (clientF l s).1.from_, .int .i64 (clientF l s).1.to_, .int .i64 (clientF l s).1.quota], .int .i64 (clientF l s).2]) ∧ Below w.heap.size w w' := by
  have h1 : Reads (w.alloc (.cells #[.string ⟨#[]⟩, .int .i64 0, .int .i64 0, .int .i64 0, .int .i64 0] 48)) B 5 A n (cls l) := h.on hB ((Below.refl _ _).alloc (Nat.le_refl _) _)
  have hB1 : B ≤ (w.alloc (.cells #[.string ⟨#[]⟩, .int .i64 0, .int .i64 0, .int .i64 0, .int .i64 0] 48)).heap.size := by simp; omega
  have bx := Blk.new w 48 #[.string ⟨#[]⟩, .int .i64 0, .int .i64 0, .int .i64 0, .int .i64 0]
  have hl := Lib.hid (cls_len h)
  by_cases hc : (namedF l s true).2 = 0
  · obtain ⟨hok, i, x, hnm, hx⟩ := named_cases hc
    have hin : i < n := by have := (List.getElem?_eq_some_iff.1 hx).1; have := hl.out; omega
    rw [clientF_ok hnm hx]
    go_enter Tryz.func36, Tryz.ntmps36
    go_wp2_with fail
    refine (l24Named_any A n c l s B _ h1 hB1 hn hsm hgd).mono ?_
    rintro e w1 ⟨rfl, b1⟩
    rw [hnm]
    obtain ⟨y, b, off, he, rfl, hb, c0, c1, c2, c3, c4⟩ := cl_at (h1.on hB1 b1) hin
    obtain rfl : x = y := by rw [hx] at he; injection he
    have bx1 := bx.on b1
    have hc0 := bx1.cellAt 0 (by decide)
    have hc1 := bx1.cellAt 1 (by decide)
    have hc2 := bx1.cellAt 2 (by decide)
    have hc3 := bx1.cellAt 3 (by decide)
    have hc4 := bx1.cellAt 4 (by decide)
    have hf0 := bx1.frozen 0
    have hf1 := bx1.frozen 1
    have hf2 := bx1.frozen 2
    have hf3 := bx1.frozen 3
    have hf4 := bx1.frozen 4
    have HB := Lib.hid (bnext ((Below.refl w.heap.size w).alloc (Nat.le_refl _) _) b1 (Nat.le_refl _))
    have hi0 : (0 : Int) ≤ i := by omega
    have hi1 : (i : Int) < n := by omega
    clear he hx hnm hc h h1 b1 bx bx1 hsm hgd hok
    go_wp2
    exact bodyPost_ret (v := .tuple #[.agg #[.string x.name, .int .i64 x.station, .int .i64 x.from_, .int .i64 x.to_, .int .i64 x.quota], .int .i64 0]) (by simp [results, Tryz.results36, go_sem, hc0, hc1, hc2, hc3, hc4]) rfl ⟨rfl, ((((HB.out.setCell (Nat.le_refl _) _).setCell (Nat.le_refl _) _).setCell (Nat.le_refl _) _).setCell (Nat.le_refl _) _).setCell (Nat.le_refl _) _⟩
  · have HO := Lib.hid (clientF_bad hc)
    have hc' : ((namedF l s true).2 != 0) = true := by simp [hc]
    clear hc
    go_enter Tryz.func36, Tryz.ntmps36
    go_wp2_with fail
    refine (l24Named_any A n c l s B _ h1 hB1 hn hsm hgd).mono ?_
    rintro e w1 ⟨rfl, b1⟩
    have bx1 := bx.on b1
    have hc0 := bx1.cellAt 0 (by decide)
    have hc1 := bx1.cellAt 1 (by decide)
    have hc2 := bx1.cellAt 2 (by decide)
    have hc3 := bx1.cellAt 3 (by decide)
    have hc4 := bx1.cellAt 4 (by decide)
    have hf0 := bx1.frozen 0
    have hf1 := bx1.frozen 1
    have hf2 := bx1.frozen 2
    have hf3 := bx1.frozen 3
    have hf4 := bx1.frozen 4
    have HB := Lib.hid (bnext ((Below.refl w.heap.size w).alloc (Nat.le_refl _) _) b1 (Nat.le_refl _))
    clear h h1 b1 bx bx1 hsm hgd
    go_wp2
    exact bodyPost_ret (v := .tuple #[.agg #[.string ⟨#[]⟩, .int .i64 0, .int .i64 0, .int .i64 0, .int .i64 0], .int .i64 (namedF l s true).2]) (by simp [results, Tryz.results36, go_sem, hc0, hc1, hc2, hc3, hc4]) rfl ⟨by rw [HO.out], ((((HB.out.setCell (Nat.le_refl _) _).setCell (Nat.le_refl _) _).setCell (Nat.le_refl _) _).setCell (Nat.le_refl _) _).setCell (Nat.le_refl _) _⟩

set_option maxHeartbeats 2000000 in
theorem implClientOf_any (A : Option Addr) (n c : Nat) (l : List Cl) (s : ByteArray) (B : Nat) (w : World) (h : Reads w B 5 A n (cls l)) (hB : B ≤ w.heap.size) (hn : n ≤ 1048576) (hsm : ∀ x ∈ l, x.small) (hgd : ∀ x ∈ l, x.good) (hs : s.size ≤ 1048576) :
    Calls Tryz.prog 35 #[.slice A n c, .string s] w fun e w' => e = .returned (.tuple #[.agg #[.string (clientF l s).1.name, .int .i64 (clientF l s).1.station, .int .i64 (clientF l s).1.from_, .int .i64 (clientF l s).1.to_, .int .i64 (clientF l s).1.quota], .int .i64 (clientF l s).2]) ∧ Below w.heap.size w w' := by
  have h1 : Reads (w.alloc (.cells #[.string ⟨#[]⟩, .int .i64 0, .int .i64 0, .int .i64 0, .int .i64 0] 48)) B 5 A n (cls l) := h.on hB ((Below.refl _ _).alloc (Nat.le_refl _) _)
  have hB1 : B ≤ (w.alloc (.cells #[.string ⟨#[]⟩, .int .i64 0, .int .i64 0, .int .i64 0, .int .i64 0] 48)).heap.size := by simp; omega
  have bx := Blk.new w 48 #[.string ⟨#[]⟩, .int .i64 0, .int .i64 0, .int .i64 0, .int .i64 0]
  have hl := Lib.hid (cls_len h)
  by_cases hc : (namedF l s true).2 = 0
  · obtain ⟨hok, i, x, hnm, hx⟩ := named_cases hc
    have hin : i < n := by have := (List.getElem?_eq_some_iff.1 hx).1; have := hl.out; omega
    rw [clientF_ok hnm hx]
    go_enter Tryz.func35, Tryz.ntmps35
    go_wp2_with fail
    refine (clientCode_any A n c l s true B _ h1 hB1 hn hsm hgd).mono ?_
    rintro e w1 ⟨rfl, b1⟩
    rw [hnm]
    obtain ⟨y, b, off, he, rfl, hb, c0, c1, c2, c3, c4⟩ := cl_at (h1.on hB1 b1) hin
    obtain rfl : x = y := by rw [hx] at he; injection he
    have bx1 := bx.on b1
    have hc0 := bx1.cellAt 0 (by decide)
    have hc1 := bx1.cellAt 1 (by decide)
    have hc2 := bx1.cellAt 2 (by decide)
    have hc3 := bx1.cellAt 3 (by decide)
    have hc4 := bx1.cellAt 4 (by decide)
    have hf0 := bx1.frozen 0
    have hf1 := bx1.frozen 1
    have hf2 := bx1.frozen 2
    have hf3 := bx1.frozen 3
    have hf4 := bx1.frozen 4
    have HB := Lib.hid (bnext ((Below.refl w.heap.size w).alloc (Nat.le_refl _) _) b1 (Nat.le_refl _))
    have hi0 : (0 : Int) ≤ i := by omega
    have hi1 : (i : Int) < n := by omega
    clear he hx hnm hc h h1 b1 bx bx1 hsm hgd hok
    go_wp2
    exact bodyPost_ret (v := .tuple #[.agg #[.string x.name, .int .i64 x.station, .int .i64 x.from_, .int .i64 x.to_, .int .i64 x.quota], .int .i64 0]) (by simp [results, Tryz.results35, go_sem, hc0, hc1, hc2, hc3, hc4]) rfl ⟨rfl, ((((HB.out.setCell (Nat.le_refl _) _).setCell (Nat.le_refl _) _).setCell (Nat.le_refl _) _).setCell (Nat.le_refl _) _).setCell (Nat.le_refl _) _⟩
  · have HO := Lib.hid (clientF_bad hc)
    have hc' : ((namedF l s true).2 != 0) = true := by simp [hc]
    clear hc
    go_enter Tryz.func35, Tryz.ntmps35
    go_wp2_with fail
    refine (clientCode_any A n c l s true B _ h1 hB1 hn hsm hgd).mono ?_
    rintro e w1 ⟨rfl, b1⟩
    have bx1 := bx.on b1
    have hc0 := bx1.cellAt 0 (by decide)
    have hc1 := bx1.cellAt 1 (by decide)
    have hc2 := bx1.cellAt 2 (by decide)
    have hc3 := bx1.cellAt 3 (by decide)
    have hc4 := bx1.cellAt 4 (by decide)
    have hf0 := bx1.frozen 0
    have hf1 := bx1.frozen 1
    have hf2 := bx1.frozen 2
    have hf3 := bx1.frozen 3
    have hf4 := bx1.frozen 4
    have HB := Lib.hid (bnext ((Below.refl w.heap.size w).alloc (Nat.le_refl _) _) b1 (Nat.le_refl _))
    clear h h1 b1 bx bx1 hsm hgd
    go_wp2
    exact bodyPost_ret (v := .tuple #[.agg #[.string ⟨#[]⟩, .int .i64 0, .int .i64 0, .int .i64 0, .int .i64 0], .int .i64 (namedF l s true).2]) (by simp [results, Tryz.results35, go_sem, hc0, hc1, hc2, hc3, hc4]) rfl ⟨by rw [HO.out], ((((HB.out.setCell (Nat.le_refl _) _).setCell (Nat.le_refl _) _).setCell (Nat.le_refl _) _).setCell (Nat.le_refl _) _).setCell (Nat.le_refl _) _⟩
end Go.Proofs.YtjmlcobbjpmjpaaGreatDoor
namespace Go.Proofs.YtjmlcobbjpmjpaaGreatDoor
open Go.RowKit Go.Lib

def SynP (w : World) : Prop := ∃ (tp : TypeId) (p : Value), w.var? Tryz.prog "strconv.ErrSyntax" = some #[.iface tp p]
theorem var_up {w w' : World} {n : String} {cs : Array Value} (h : w.var? Tryz.prog n = some cs) (hb : Below w.heap.size w w') : w'.var? Tryz.prog n = some cs := by
  unfold World.var? at h ⊢
  cases hg : Tryz.prog.globalNamed n with
  | none => rw [hg] at h; cases h
  | some g =>
    rw [hg] at h
    simp only [Option.bind_some] at h ⊢
    have hlt : g < w.heap.size := by
      rcases Nat.lt_or_ge g w.heap.size with h' | h'
      · exact h'
      · rw [Array.getElem?_eq_none h'] at h; cases h
    rw [hb.block g hlt]
    exact h
theorem synUp {w w' : World} (h : SynP w) (hb : Below w.heap.size w w') : SynP w' := by
  obtain ⟨tp, p, h⟩ := h
  exact ⟨tp, p, var_up h hb⟩
theorem bare_trim (l : List UInt8) : Lib.trimPrefix l [45] = bare l := by
  cases l with
  | nil => rfl
  | cons c r =>
    by_cases h : c = 45
    · subst h
      simp [Lib.trimPrefix, Lib.hasPrefix, bare, List.isPrefixOf]
    · have h' : ¬ (45 = c) := fun e => h e.symm
      simp [Lib.trimPrefix, Lib.hasPrefix, bare, List.isPrefixOf, h, h']
theorem parse_norange {s : List UInt8} (hl : (bare s).length ≤ 18) : parseIntB 64 s ≠ .range := by
  intro h
  have key : ∀ l : List UInt8, l.length ≤ 18 → parseUintB 64 l ≠ .range ∧ ∀ u, parseUintB 64 l = .ok u → u < 1000000000000000000 := by
    intro l h18
    unfold parseUintB
    by_cases h0 : l = []
    · rw [if_pos h0]; exact ⟨by simp, fun u hu => by simp at hu⟩
    · rw [if_neg h0, show (2 ^ 64 - 1 : Nat) = 18446744073709551615 from rfl]
      rcases hd : l.all isDig with _ | _
      · rw [parseM_bad l 0 0 (by decide) (by omega) hd]
        exact ⟨by simp, fun u hu => by simp at hu⟩
      · rw [parseM_dig l 0 0 (by decide) (by omega) hd]
        refine ⟨by simp, fun u hu => ?_⟩
        injection hu with hu
        have := valD_lt hd h18
        show u < _
        have e : valF 0 l = valD l := rfl
        omega
  cases s with
  | nil => simp [parseIntB] at h
  | cons c r =>
    by_cases hp : c.toNat = 43
    · have hc : c = 43 := by rw [← UInt8.toNat_inj]; exact hp
      subst hc
      have hl' : r.length ≤ 18 := by simp [bare] at hl; omega
      obtain ⟨k1, k2⟩ := key r hl'
      unfold parseIntB at h
      simp only [hp, true_or, if_true] at h
      rcases hu : parseUintB 64 r with u | _ | _
      · rw [hu] at h
        have := k2 u hu
        simp only at h
        rw [if_neg (by show ¬ (_ ∧ 2 ^ 63 ≤ u); omega), if_neg (by simp)] at h
        cases h
      · rw [hu] at h; cases h
      · exact k1 hu
    · by_cases hm : c.toNat = 45
      · have hc : c = 45 := by rw [← UInt8.toNat_inj]; exact hm
        subst hc
        have hl' : r.length ≤ 18 := by simpa [bare] using hl
        obtain ⟨k1, k2⟩ := key r hl'
        unfold parseIntB at h
        simp only [hm, or_true, if_true] at h
        rcases hu : parseUintB 64 r with u | _ | _
        · rw [hu] at h
          have := k2 u hu
          simp only at h
          rw [if_neg (by simp), if_neg (by show ¬ (_ ∧ 2 ^ 63 < u); omega)] at h
          cases h
        · rw [hu] at h; cases h
        · exact k1 hu
      · have hc : c ≠ 45 := fun hh => hm (by rw [hh]; rfl)
        have hl' : (c :: r).length ≤ 18 := by simpa [bare, hc] using hl
        obtain ⟨k1, k2⟩ := key (c :: r) hl'
        unfold parseIntB at h
        simp only [hp, hm, or_self, if_false] at h
        rcases hu : parseUintB 64 (c :: r) with u | _ | _
        · rw [hu] at h
          have := k2 u hu
          simp only at h
          rw [if_neg (by show ¬ (_ ∧ 2 ^ 63 ≤ u); omega), if_neg (by simp)] at h
          cases h
        · rw [hu] at h; cases h
        · exact k1 hu
theorem trim_any (s : ByteArray) (w : World) :
    Calls Tryz.prog 108 #[.string s, .string ⟨#[45]⟩] w fun e w' => e = .returned (.string (asBytes (bare s.data.toList))) ∧ w = w' := by
  refine (Tryz.strings_TrimPrefix s ⟨#[45]⟩ w).mono ?_
  rintro e w' ⟨rfl, rfl⟩
  refine ⟨?_, rfl⟩
  rw [show (⟨#[45]⟩ : ByteArray).data.toList = [45] from rfl, bare_trim]
  rfl

set_option maxHeartbeats 4000000 in
set_option maxRecDepth 100000 in
theorem readDecimal_any (s : ByteArray) (w : World) (hs : s.size ≤ 281474976710656) (ht : TabP w) (hv : SynP w) :
    Calls Tryz.prog 106 #[.string s] w fun e w' => e = .returned (.tuple #[.int .i64 (readN s.data.toList).1, .bool (readN s.data.toList).2]) ∧ Below w.heap.size w w' := by
  have HT := Lib.hid ht
  have HV := Lib.hid hv
  have hsl := Lib.hid (show s.data.toList.length = s.size by rw [Array.length_toList]; rfl)
  clear ht hv
  by_cases h19 : 19 < s.size
  · have hg : decide ((19 : Int) < (s.size : Int)) = true := decide_eq_true (by omega)
    have HO := Lib.hid (readN_no (isDec_long (s := s.data.toList) (by have := (bare_len s.data.toList).2; have := hsl.out; omega)))
    go_enter Tryz.func106, Tryz.ntmps106
    go_wp2
    go_ret2
    rw [HO.out]
    exact ⟨rfl, Below.refl _ _⟩
  · have hg : decide ((19 : Int) < (s.size : Int)) = false := decide_eq_false (by omega)
    by_cases h18 : 18 < (bare s.data.toList).length
    · have hg2 : decide ((18 : Int) < ((asBytes (bare s.data.toList)).size : Int)) = true := decide_eq_true (by rw [asBytes_size]; omega)
      have HO := Lib.hid (readN_no (isDec_long h18))
      clear h18
      go_enter Tryz.func106, Tryz.ntmps106
      go_wp2_with (first | (go_at_call 108; refine (trim_any _ _).mono ?_; rintro e w2 ⟨rfl, rfl⟩) | fail "t")
      go_ret2
      rw [HO.out]
      exact ⟨rfl, Below.refl _ _⟩
    · have hg2 : decide ((18 : Int) < ((asBytes (bare s.data.toList)).size : Int)) = false := decide_eq_false (by rw [asBytes_size]; omega)
      have hb18 : (bare s.data.toList).length ≤ 18 := by omega
      rcases hp : Lib.parseIntB 64 s.data.toList with v | _ | _
      · have hpo := Lib.hid (parse_ok hb18 hp)
        have HP := Lib.hid hp
        have hvb : -9223372036854775808 ≤ v ∧ v ≤ 9223372036854775807 := by
          have h9 := Lib.parseIntB_bounds hp
          have e9 : ((2 ^ (64 - 1) : Nat) : Int) = 9223372036854775808 := by decide
          rw [e9] at h9
          omega
        rcases hq : ((asBytes (itoa v)).toList == s.toList) with _ | _
        · have HO := Lib.hid (readN_no (hpo.out.2 (fun e => by rw [Go.ByteArray.toList_eq, Go.ByteArray.toList_eq, data_asBytes, e] at hq; simp at hq)))
          have hq' : ((asBytes (itoa v)).toList != s.toList) = true := by simp only [bne, hq]; rfl
          clear hp h18 hb18
          go_enter Tryz.func106, Tryz.ntmps106
          go_wp2_with (first | (go_at_call 108; refine (trim_any _ _).mono ?_; rintro e w2 ⟨rfl, rfl⟩) | fail "t")
          refine (Tryz.strconv_ParseInt_10_at64_ok s (by omega) v HP.out _).mono ?_
          rintro e w2 ⟨rfl, hw2⟩
          have b2 : Below w.heap.size w w2 := by
            rcases hw2 with rfl | ⟨t, rfl⟩
            · exact Below.refl _ _
            · exact Lib.bytesWorld_below _ _ _
          have H2 := Lib.hid b2
          clear hw2 b2
          go_wp2_with fail
          refine (decimal_any v _ hvb.1 hvb.2 (tabUp HT.out H2.out)).mono ?_
          rintro e w3 ⟨rfl, b3⟩
          have H3 := Lib.hid (bnext H2.out b3 (Nat.le_refl _))
          clear b3
          go_wp2
          go_ret2
          rw [HO.out]
          exact ⟨rfl, H3.out⟩
        · have he : itoa v = s.data.toList := by
            rw [Go.ByteArray.toList_eq, Go.ByteArray.toList_eq, data_asBytes] at hq
            simpa using hq
          have HO := Lib.hid (show readN s.data.toList = (v, true) by
            obtain ⟨h1, h2⟩ := hpo.out.1 he
            rw [readN_yes h1, h2])
          have hq' : ((asBytes (itoa v)).toList != s.toList) = false := by simp only [bne, hq]; rfl
          clear hp h18 hb18 he
          go_enter Tryz.func106, Tryz.ntmps106
          go_wp2_with (first | (go_at_call 108; refine (trim_any _ _).mono ?_; rintro e w2 ⟨rfl, rfl⟩) | fail "t")
          refine (Tryz.strconv_ParseInt_10_at64_ok s (by omega) v HP.out _).mono ?_
          rintro e w2 ⟨rfl, hw2⟩
          have b2 : Below w.heap.size w w2 := by
            rcases hw2 with rfl | ⟨t, rfl⟩
            · exact Below.refl _ _
            · exact Lib.bytesWorld_below _ _ _
          have H2 := Lib.hid b2
          clear hw2 b2
          go_wp2_with fail
          refine (decimal_any v _ hvb.1 hvb.2 (tabUp HT.out H2.out)).mono ?_
          rintro e w3 ⟨rfl, b3⟩
          have H3 := Lib.hid (bnext H2.out b3 (Nat.le_refl _))
          clear b3
          go_wp2
          go_ret2
          rw [HO.out]
          exact ⟨rfl, H3.out⟩
      · have HO := Lib.hid (readN_no (parse_syntax hb18 hp))
        have HP := Lib.hid hp
        obtain ⟨tp, pp, hvar⟩ := HV.out
        have HVa := Lib.hid hvar
        clear hp h18 hb18 hvar
        go_enter Tryz.func106, Tryz.ntmps106
        go_wp2_with (first | (go_at_call 108; refine (trim_any _ _).mono ?_; rintro e w2 ⟨rfl, rfl⟩) | fail "t")
        refine (Tryz.strconv_ParseInt_10_at64_syntax_var s hs HP.out tp pp _ HVa.out).mono ?_
        rintro e w2 ⟨N, rfl, hN, hblk, b2⟩
        have H2 := Lib.hid b2
        clear b2 hblk hN
        go_wp2
        go_ret2
        rw [HO.out]
        exact ⟨rfl, H2.out⟩
      · exact absurd hp (fun h => by
          have := parse_norange hb18
          exact this h)
end Go.Proofs.YtjmlcobbjpmjpaaGreatDoor
namespace Go.Proofs.YtjmlcobbjpmjpaaGreatDoor
open Go.RowKit Go.Lib

theorem Sl.full (w : World) (l : List ByteArray) (t : TypeId) (h : l.length ≤ 1048577) :
    Sl (w.alloc (.cells (strs l).toArray t)) w.heap.size (w.alloc (.cells (strs l).toArray t)).heap.size t 1 (some ⟨w.heap.size, 0, none⟩) l.length l.length (strs l) := by
  have hl : (strs l).length = l.length := by simp [strs]
  refine ⟨⟨by rw [hl, Nat.mul_one], .inr ⟨w.heap.size, l.length, (strs l).toArray, rfl, Nat.le_refl _, heap_alloc_new w _, Nat.le_refl _, ?_, by simp [hl], ?_⟩⟩, fun b hb => ?_⟩
  · exact Nat.le_trans h (by decide)
  · simp
    exact List.take_of_length_le (by rw [hl]; exact Nat.le_refl _)
  · injection hb with hb
    subst hb
    simp
theorem strSplit_any (s : ByteArray) (c : UInt8) (m : Int) (w : World) (hs : s.size ≤ 1048576) (hm : w.cell? ⟨0, 0, none⟩ = some (.int .i64 m)) :
    Calls Tryz.prog 104 #[.string s, .string ⟨#[c]⟩] w fun e w' => ∃ A n d, e = .returned (.slice A n d) ∧ Sl w' w.heap.size w'.heap.size 9 1 A n d (strs (splitS c s)) ∧ Below w.heap.size w w' := by
  have hlen : (splitS c s).length = s.data.toList.count c + 1 := splitS_len c s
  have hcnt : s.data.toList.count c ≤ s.size := by rw [← data_len s]; exact List.count_le_length
  refine (Tryz.strings_Split s ⟨#[c]⟩ m w (by omega) hm (Nat.le_refl 1)).mono ?_
  rintro e w' ⟨rfl, rfl⟩
  rw [splitB_one, countB_one, ← hlen]
  exact ⟨_, _, _, rfl, Sl.full w _ _ (by omega), (Below.refl _ _).alloc (Nat.le_refl _) _⟩
end Go.Proofs.YtjmlcobbjpmjpaaGreatDoor
namespace Go.Proofs.YtjmlcobbjpmjpaaGreatDoor
open Go.RowKit Go.Lib

def stepS (s : ByteArray) (r : LogR) : Option LogR := match splitS 10 (s.extract r.at_ s.size) with
  | l :: _ :: _ => stepF r l
  | _ => none
theorem stepS_miss {s : ByteArray} {r : LogR} (h : (10 : UInt8) ∉ (s.extract r.at_ s.size).data.toList) : stepS s r = none := by
  unfold stepS; rw [split_end h]
theorem stepS_hit {s : ByteArray} {r : LogR} {k : Nat} (hn : (10 : UInt8) ∉ (s.extract r.at_ k).data.toList) (hj : r.at_ ≤ k) (hk : k < s.size) (hc : s[k] = 10) : stepS s r = stepF r (s.extract r.at_ k) := by
  unfold stepS
  rw [split_step hn hj hk hc]
  rcases h : splitS 10 (s.extract (k + 1) s.size) with _ | ⟨m, t⟩
  · exact absurd h (splitS_ne _ _)
  · rfl
theorem stepS_go {s : ByteArray} {r : LogR} (hat : r.at_ ≤ s.size) : logGo (splitS 10 (s.extract r.at_ s.size)) r = match stepS s r with
    | none => r
    | some r' => logGo (splitS 10 (s.extract r'.at_ s.size)) r' := by
  rcases index_one 10 (s.extract r.at_ s.size).data.toList with ⟨_, hno⟩ | ⟨al, rl, he, hna, _⟩
  · rw [stepS_miss hno, logGo_miss hno]
  · have he' : (s.extract r.at_ s.size).data.toList = (asBytes al).data.toList ++ 10 :: rl := by rw [data_asBytes]; exact he
    have hn' : (10 : UInt8) ∉ (asBytes al).data.toList := by rw [data_asBytes]; exact hna
    have h1 := logGo_cut (r := r) he' hn'
    have h2 := rest_cut hat he'
    have h3 : stepS s r = stepF r (asBytes al) := by
      unfold stepS splitS
      rw [he, splitL_hit hna, List.map_cons]
      rcases h : List.map asBytes (splitL 10 rl) with _ | ⟨m, t⟩
      · exact absurd (by simpa using h) (splitL_ne _ _)
      · rfl
    rw [h1, h3]
    rcases h4 : stepF r (asBytes al) with _ | r'
    · rfl
    · have h5 : r'.at_ = r.at_ + (asBytes al).size + 1 := by
        unfold stepF at h4
        split at h4
        · cases h4
        · split at h4
          · injection h4 with h4; subst h4; rfl
          · cases h4
      simp only
      rw [h2.1, h5]
theorem stepS_some {s : ByteArray} {r r' : LogR} (hok : r.ok) (hat : r.at_ ≤ s.size) (h : stepS s r = some r') : r'.ok ∧ r'.at_ ≤ s.size ∧ r.at_ < r'.at_ := by
  rcases index_one 10 (s.extract r.at_ s.size).data.toList with ⟨_, hno⟩ | ⟨al, rl, he, hna, _⟩
  · rw [stepS_miss hno] at h; cases h
  · have he' : (s.extract r.at_ s.size).data.toList = (asBytes al).data.toList ++ 10 :: rl := by rw [data_asBytes]; exact he
    have h2 := rest_cut hat he'
    have h3 : stepS s r = stepF r (asBytes al) := by
      unfold stepS splitS
      rw [he, splitL_hit hna, List.map_cons]
      rcases h : List.map asBytes (splitL 10 rl) with _ | ⟨m, t⟩
      · exact absurd (by simpa using h) (splitL_ne _ _)
      · rfl
    rw [h3] at h
    obtain ⟨k1, k2, _⟩ := LogR.ok_step hok h
    exact ⟨k1, by omega, by omega⟩
theorem stepF_four_day {r : LogR} {line a b c d : ByteArray} (h : splitS 32 line = [a, b, c, d]) (hd : ¬ (dayR r.list ≤ numS a.data.toList)) : stepF r line = none := by
  rcases hl : lineF line with _ | ⟨e, st⟩
  · exact stepF_none hl
  · have he : e.day = numS a.data.toList := by
      rw [lineF_four h] at hl
      unfold wordsF at hl
      split at hl
      · injection hl with hl; injection hl with hl _; subst hl; rfl
      · cases hl
    exact stepF_day hl (by rw [he]; exact hd)
theorem stepF_four_text {r : LogR} {line a b c d : ByteArray} (h : splitS 32 line = [a, b, c, d]) (h1 : isDec a.data.toList = true) (h2 : isDec c.data.toList = true)
    (ht : lineB (stampW r.stamp (wordsB ⟨numS a.data.toList, b, numS c.data.toList⟩)) ⟨numS a.data.toList, b, numS c.data.toList⟩ ≠ line ++ ⟨#[10]⟩) : stepF r line = none := by
  have hb := stampW_bd r.stamp (wordsB ⟨numS a.data.toList, b, numS c.data.toList⟩)
  have hx := fun q => ht ((line_text h h1 h2 hb.1 hb.2).2 q)
  rcases hl : lineF line with _ | ⟨e, st⟩
  · exact stepF_none hl
  · rw [lineF_four h] at hl
    unfold wordsF at hl
    split at hl
    · rename_i hw
      injection hl with hl; injection hl with hl hl'
      simp only [Bool.and_eq_true] at hw
      have hl2 : lineF line = some (e, st) := by rw [lineF_four h, wordsF_yes hw.1.1.1 hw.1.1.2 hw.1.2 hw.2, hl, hl']
      refine stepF_stamp hl2 (fun hs => hx ⟨hw.1.2, ?_⟩)
      rw [hl', ← hs, hl]
    · cases hl
theorem stepF_four_yes {r : LogR} {line a b c d : ByteArray} (h : splitS 32 line = [a, b, c, d]) (h1 : isDec a.data.toList = true) (h2 : isDec c.data.toList = true) (h4 : okEn ⟨numS a.data.toList, b, numS c.data.toList⟩ = true) (hd : dayR r.list ≤ numS a.data.toList)
    (ht : lineB (stampW r.stamp (wordsB ⟨numS a.data.toList, b, numS c.data.toList⟩)) ⟨numS a.data.toList, b, numS c.data.toList⟩ = line ++ ⟨#[10]⟩) :
    stepF r line = some ⟨r.list ++ [⟨numS a.data.toList, b, numS c.data.toList⟩], stampW r.stamp (wordsB ⟨numS a.data.toList, b, numS c.data.toList⟩), r.at_ + line.size + 1⟩ := by
  have hb := stampW_bd r.stamp (wordsB ⟨numS a.data.toList, b, numS c.data.toList⟩)
  obtain ⟨h5, h6⟩ := (line_text h h1 h2 hb.1 hb.2).1 ht
  have hl : lineF line = some (⟨numS a.data.toList, b, numS c.data.toList⟩, numS d.data.toList) := by rw [lineF_four h, wordsF_yes h1 h2 h5 h4]
  have := stepF_yes (r := r) hl hd h6.symm
  rw [this, h6]
theorem stepF_four_no {r : LogR} {line a b c d : ByteArray} (h : splitS 32 line = [a, b, c, d]) (hw : wordsF a b c d = none) : stepF r line = none := stepF_none (by rw [lineF_four h, hw])
theorem stepF_other {r : LogR} {line : ByteArray} (h : (splitS 32 line).length ≠ 4) : stepF r line = none := stepF_none (lineF_other h)
theorem extract_next {s : ByteArray} {j k : Nat} (hj : j ≤ k) (hk : k < s.size) (hc : s[k] = 10) : s.extract j (k + 1) = s.extract j k ++ ⟨#[10]⟩ := by
  apply bytes_ext
  have hl := data_len s
  rw [data_app, piece_data, piece_data, show k + 1 - j = (k - j) + 1 by omega, List.take_succ_eq_append_getElem (by rw [List.length_drop]; omega)]
  congr 1
  have := byte_at s k hk
  rw [List.getElem?_eq_getElem (by omega)] at this
  injection this with this
  rw [List.getElem_drop]
  have e : j + (k - j) = k := by omega
  simp only [e, this, hc]
end Go.Proofs.YtjmlcobbjpmjpaaGreatDoor
namespace Go.Proofs.YtjmlcobbjpmjpaaGreatDoor
open Go.RowKit

theorem wp_slOne {P : Program} {o : Oper} {a : Act} {Q : Exit → Act → World → Prop} {K : Act → World → Prop} (s x : Operand) (t : TypeId)
    (ho : o.op = .call { callee := .builtin .append, args := #[s, x], argTypes := #[t, t] })
    (e : TypeId) (zv : Value) (size bytes : Nat) (ht : P.underlying t = some (.slice e)) (hinfo : (P.info? e).map (fun i => (i.zero, i.size, i.bytes)) = some (some zv, size, bytes)) (hzs : zv.cells.size = size) (hsz : 0 < size) (hb : bytes ≤ 1000)
    {lo hi : Nat} {wr : World} {A : Option Addr} {m c : Nat} {xs : List Value} (h : Sl wr lo hi e size A m c xs) (hlo : lo ≤ wr.heap.size) (hs : a.eval s = .slice A m c)
    (news : List Value) (hd : Nat) (hhd : hd = wr.heap.size) (hx : a.eval x = .slice (some ⟨hd, 0, none⟩) 1 1) (hl : news.length = size) (h1 : ∀ u ∈ news, u.oneCell' = true) (hm : m < 100000000)
    (HK : ∀ A' c' w1, Sl w1 lo w1.heap.size e size A' (m + 1) c' (xs ++ news) → Below lo wr w1 → K (a.put o.dst (.slice A' (m + 1) c')) w1) : o.wp P a (wr.alloc (.cells news.toArray e)) K Q := by
  subst hhd
  obtain ⟨i, hi', hz, hsize, hby⟩ := info_parts hinfo
  have hAb : ∀ ad, A = some ad → lo ≤ ad.block := fun ad had => by
    rcases h.form with ⟨h0, _⟩ | ⟨g, cur, hg, h2, _⟩
    · rw [h0] at had; cases had
    · rw [hg] at had; injection had with had; subst had; exact h2
  have hown : (wr.alloc (.cells news.toArray e)).ownsRow lo e size (.slice A m c) m xs := h.1.alloc _
  obtain ⟨v', w', hr, h2, h3, h4, h5⟩ := run_append_own_at (P := P) (wr.alloc (.cells news.toArray e)) lo t o.type e i zv size bytes ht hi' hz hsize hby hzs hsz _ m xs hown ⟨wr.heap.size, 0, none⟩ 1 1 news (by omega) (news_at wr news e) h1 (by unfold maxLen; omega) (by
    calc (m + 1) * bytes ≤ 100000000 * 1000 := Nat.mul_le_mul (by omega) hb
      _ ≤ 140737488355328 := by decide) (by simp; omega)
  unfold Oper.wp execOp
  simp only [ho, resolve, invoke, builtin, Sem.run_bind, Sem.run_pure, Result.andThen_ok, List.map_toArray, List.map_cons, List.map_nil, hs, hx, hr]
  have hbel : Below lo wr w' := by
    refine ⟨h3.os, h3.tape, h3.output, ?_, fun k hk => ?_⟩
    · have := h3.size; simp at this; omega
    · rw [h3.block k (by simp; omega) (fun ee => ?_), Below.heap_alloc wr _ k (by omega)]
      cases A with
      | none => simp [Value.ownBlock] at ee
      | some ad =>
        simp [Value.ownBlock] at ee
        have := hAb ad rfl
        omega
  rcases h2.2 with ⟨hv, hn⟩ | ⟨g, cap, cur, hv, hb', hgg, hrest'⟩
  · omega
  · subst hv
    exact HK _ _ _ ⟨h2, fun ad had => by injection had with had; subst had; exact (Array.getElem?_eq_some_iff.1 hgg).1⟩ hbel
theorem wpList_slOne {P : Program} {ops : Array Oper} {rest : List Oper} {o : Oper} {a : Act} {Q : Exit → Act → World → Prop} (hgd : o.guard = none) (s x : Operand) (t : TypeId)
    (ho : o.op = .call { callee := .builtin .append, args := #[s, x], argTypes := #[t, t] })
    (e : TypeId) (zv : Value) (size bytes : Nat) (ht : P.underlying t = some (.slice e)) (hinfo : (P.info? e).map (fun i => (i.zero, i.size, i.bytes)) = some (some zv, size, bytes)) (hzs : zv.cells.size = size) (hsz : 0 < size) (hb : bytes ≤ 1000)
    {lo hi : Nat} {wr : World} {A : Option Addr} {m c : Nat} {xs : List Value} (h : Sl wr lo hi e size A m c xs) (hlo : lo ≤ wr.heap.size) (hs : a.eval s = .slice A m c)
    (news : List Value) (hd : Nat) (hhd : hd = wr.heap.size) (hx : a.eval x = .slice (some ⟨hd, 0, none⟩) 1 1) (hl : news.length = size) (h1 : ∀ u ∈ news, u.oneCell' = true) (hm : m < 100000000)
    (HK : ∀ A' c' w1, Sl w1 lo w1.heap.size e size A' (m + 1) c' (xs ++ news) → Below lo wr w1 → wpList P ops Q rest (a.put o.dst (.slice A' (m + 1) c')) w1) : wpList P ops Q (o :: rest) a (wr.alloc (.cells news.toArray e)) :=
  wpList_plain hgd fun K hK => wp_slOne s x t ho e zv size bytes ht hinfo hzs hsz hb h hlo hs news hd hhd hx hl h1 hm fun A' c' w1 k1 k2 => hK _ _ (HK A' c' w1 k1 k2)
/-- The same as a step of a region that draws. -/
theorem step_slOne {P : Program} {ops : Array Oper} {o : Oper} {a : Act} {Q : Exit → Act → World → Prop} {K : Act → World → Prop} {E : Prop} (hgd : o.guard = none) (s x : Operand) (t : TypeId)
    (ho : o.op = .call { callee := .builtin .append, args := #[s, x], argTypes := #[t, t] })
    (e : TypeId) (zv : Value) (size bytes : Nat) (ht : P.underlying t = some (.slice e)) (hinfo : (P.info? e).map (fun i => (i.zero, i.size, i.bytes)) = some (some zv, size, bytes)) (hzs : zv.cells.size = size) (hsz : 0 < size) (hb : bytes ≤ 1000)
    {lo hi : Nat} {wr : World} {A : Option Addr} {m c : Nat} {xs : List Value} (h : Sl wr lo hi e size A m c xs) (hlo : lo ≤ wr.heap.size) (hs : a.eval s = .slice A m c)
    (news : List Value) (hd : Nat) (hhd : hd = wr.heap.size) (hx : a.eval x = .slice (some ⟨hd, 0, none⟩) 1 1) (hl : news.length = size) (h1 : ∀ u ∈ news, u.oneCell' = true) (hm : m < 100000000)
    (HK : ∀ A' c' w1, Sl w1 lo w1.heap.size e size A' (m + 1) c' (xs ++ news) → Below lo wr w1 → K (a.put o.dst (.slice A' (m + 1) c')) w1) :
    if Region.wanted o (yielded ops a.tmps) = true then Oper.wp P o a (wr.alloc (.cells news.toArray e)) K Q else E := by
  have hw : Region.wanted o (yielded ops a.tmps) = true := by simp [Region.wanted, hgd]
  rw [if_pos hw]
  exact wp_slOne s x t ho e zv size bytes ht hinfo hzs hsz hb h hlo hs news hd hhd hx hl h1 hm HK
theorem Sl.low {w : World} {lo hi : Nat} {t : TypeId} {size : Nat} {A : Option Addr} {n c : Nat} {xs : List Value} (h : Sl w lo hi t size A n c xs) : Sl w lo w.heap.size t size A n c xs := by
  refine ⟨h.1, fun b hb => ?_⟩
  have := h.1.lt b.block (by subst hb; rfl)
  exact this.2
theorem Sl.drewN {w : World} {lo hi : Nat} {t : TypeId} {size : Nat} {A : Option Addr} {n c : Nat} {xs : List Value} (h : Sl w lo hi t size A n c xs) (k : Nat) : Sl (w.drewN k) lo hi t size A n c xs := h.keep fun b _ _ _ => rfl
theorem Sl.drew {w : World} {lo hi : Nat} {t : TypeId} {size : Nat} {A : Option Addr} {n c : Nat} {xs : List Value} (h : Sl w lo hi t size A n c xs) : Sl w.drew lo hi t size A n c xs := h.keep fun b _ _ _ => rfl
/-- A cell of a block below is written. -/
theorem Sl.setLow {w : World} {lo hi : Nat} {t : TypeId} {size : Nat} {A : Option Addr} {n c : Nat} {xs : List Value} (h : Sl w lo hi t size A n c xs) {p : Addr} (hp : p.block < lo) (u : Value) : Sl (w.setCell p u) lo hi t size A n c xs :=
  h.keep fun b hb _ _ => Below.heap_setCell w p u b (by omega)
end Go.Proofs.YtjmlcobbjpmjpaaGreatDoor
namespace Go.Proofs.YtjmlcobbjpmjpaaGreatDoor
open Go.RowKit Go.Lib

theorem Sl.setNe {w : World} {lo hi : Nat} {t : TypeId} {size : Nat} {A : Option Addr} {n c : Nat} {xs : List Value} (h : Sl w lo hi t size A n c xs) {p : Addr} (hne : ∀ ad, A = some ad → ad.block ≠ p.block) (u : Value) : Sl (w.setCell p u) lo hi t size A n c xs := by
  refine ⟨⟨h.1.1, ?_⟩, h.2⟩
  rcases h.1.2 with hn | ⟨g, cap, cur, h', hb, hg, rest⟩
  · exact .inl hn
  · refine .inr ⟨g, cap, cur, h', hb, ?_, rest⟩
    injection h' with h1
    rw [Below.heap_setCell w p u g (hne _ h1)]
    exact hg
/-- One element appended: what stands, block by block. -/
theorem wp_slOneF {P : Program} {o : Oper} {a : Act} {Q : Exit → Act → World → Prop} {K : Act → World → Prop} (s x : Operand) (t : TypeId)
    (ho : o.op = .call { callee := .builtin .append, args := #[s, x], argTypes := #[t, t] })
    (e : TypeId) (zv : Value) (size bytes : Nat) (ht : P.underlying t = some (.slice e)) (hinfo : (P.info? e).map (fun i => (i.zero, i.size, i.bytes)) = some (some zv, size, bytes)) (hzs : zv.cells.size = size) (hsz : 0 < size) (hb : bytes ≤ 1000)
    {lo hi : Nat} {wr : World} {A : Option Addr} {m c : Nat} {xs : List Value} (h : Sl wr lo hi e size A m c xs) (hlo : lo ≤ wr.heap.size) (hs : a.eval s = .slice A m c)
    (news : List Value) (hd : Nat) (hhd : hd = wr.heap.size) (hx : a.eval x = .slice (some ⟨hd, 0, none⟩) 1 1) (hl : news.length = size) (h1 : ∀ u ∈ news, u.oneCell' = true) (hm : m < 100000000)
    (HK : ∀ A' c' w1, Sl w1 lo w1.heap.size e size A' (m + 1) c' (xs ++ news) → Below lo wr w1 → (∀ g, g < wr.heap.size → (∀ ad, A = some ad → ad.block ≠ g) → w1.heap[g]? = wr.heap[g]?) → (∀ g, g < wr.heap.size → (∀ ad, A = some ad → ad.block ≠ g) → ∀ ad, A' = some ad → ad.block ≠ g) → K (a.put o.dst (.slice A' (m + 1) c')) w1) : o.wp P a (wr.alloc (.cells news.toArray e)) K Q := by
  subst hhd
  obtain ⟨i, hi', hz, hsize, hby⟩ := info_parts hinfo
  have hAb : ∀ ad, A = some ad → lo ≤ ad.block := fun ad had => by
    rcases h.form with ⟨h0, _⟩ | ⟨g, cur, hg, h2, _⟩
    · rw [h0] at had; cases had
    · rw [hg] at had; injection had with had; subst had; exact h2
  have hown : (wr.alloc (.cells news.toArray e)).ownsRow lo e size (.slice A m c) m xs := h.1.alloc _
  obtain ⟨v', w', hr, h2, h3, h4, h5⟩ := run_append_own_at (P := P) (wr.alloc (.cells news.toArray e)) lo t o.type e i zv size bytes ht hi' hz hsize hby hzs hsz _ m xs hown ⟨wr.heap.size, 0, none⟩ 1 1 news (by omega) (news_at wr news e) h1 (by unfold maxLen; omega) (by
    calc (m + 1) * bytes ≤ 100000000 * 1000 := Nat.mul_le_mul (by omega) hb
      _ ≤ 140737488355328 := by decide) (by simp; omega)
  unfold Oper.wp execOp
  simp only [ho, resolve, invoke, builtin, Sem.run_bind, Sem.run_pure, Result.andThen_ok, List.map_toArray, List.map_cons, List.map_nil, hs, hx, hr]
  have hfr : ∀ g, g < wr.heap.size → (∀ ad, A = some ad → ad.block ≠ g) → w'.heap[g]? = wr.heap[g]? := fun k hk hne => by
    rw [h3.block k (by simp; omega) (fun ee => ?_), Below.heap_alloc wr _ k (by omega)]
    cases A with
    | none => simp [Value.ownBlock] at ee
    | some ad =>
      simp [Value.ownBlock] at ee
      exact hne ad rfl ee.symm
  have hbel : Below lo wr w' := by
    refine ⟨h3.os, h3.tape, h3.output, ?_, fun k hk => hfr k (by omega) (fun ad had => by have := hAb ad had; omega)⟩
    have := h3.size; simp at this; omega
  rcases h2.2 with ⟨hv, hn⟩ | ⟨g, cap, cur, hv, hb', hgg, hrest'⟩
  · omega
  · subst hv
    refine HK _ _ _ ⟨h2, fun ad had => by injection had with had; subst had; exact (Array.getElem?_eq_some_iff.1 hgg).1⟩ hbel hfr (fun g' hg' hne ad had => ?_)
    injection had with had
    subst had
    rcases h5 with h5 | h5
    · cases A with
      | none => simp [Value.ownBlock] at h5
      | some ad =>
        simp [Value.ownBlock] at h5
        have := hne ad rfl
        simp; omega
    · simp [Value.ownBlock] at h5
      simp; omega
theorem step_slOneF {P : Program} {ops : Array Oper} {o : Oper} {a : Act} {Q : Exit → Act → World → Prop} {K : Act → World → Prop} {E : Prop} (hgd : o.guard = none) (s x : Operand) (t : TypeId)
    (ho : o.op = .call { callee := .builtin .append, args := #[s, x], argTypes := #[t, t] })
    (e : TypeId) (zv : Value) (size bytes : Nat) (ht : P.underlying t = some (.slice e)) (hinfo : (P.info? e).map (fun i => (i.zero, i.size, i.bytes)) = some (some zv, size, bytes)) (hzs : zv.cells.size = size) (hsz : 0 < size) (hb : bytes ≤ 1000)
    {lo hi : Nat} {wr : World} {A : Option Addr} {m c : Nat} {xs : List Value} (h : Sl wr lo hi e size A m c xs) (hlo : lo ≤ wr.heap.size) (hs : a.eval s = .slice A m c)
    (news : List Value) (hd : Nat) (hhd : hd = wr.heap.size) (hx : a.eval x = .slice (some ⟨hd, 0, none⟩) 1 1) (hl : news.length = size) (h1 : ∀ u ∈ news, u.oneCell' = true) (hm : m < 100000000)
    (HK : ∀ A' c' w1, Sl w1 lo w1.heap.size e size A' (m + 1) c' (xs ++ news) → Below lo wr w1 → (∀ g, g < wr.heap.size → (∀ ad, A = some ad → ad.block ≠ g) → w1.heap[g]? = wr.heap[g]?) → (∀ g, g < wr.heap.size → (∀ ad, A = some ad → ad.block ≠ g) → ∀ ad, A' = some ad → ad.block ≠ g) → K (a.put o.dst (.slice A' (m + 1) c')) w1) :
    if Region.wanted o (yielded ops a.tmps) = true then Oper.wp P o a (wr.alloc (.cells news.toArray e)) K Q else E := by
  have hw : Region.wanted o (yielded ops a.tmps) = true := by simp [Region.wanted, hgd]
  rw [if_pos hw]
  exact wp_slOneF s x t ho e zv size bytes ht hinfo hzs hsz hb h hlo hs news hd hhd hx hl h1 hm HK

set_option maxHeartbeats 4000000 in
set_option maxRecDepth 100000 in
theorem l27Line_any (st : Int) (x : En) (b : Nat) (w : World) (hx : okEn x = true) (h0 : 0 ≤ st) (h1 : st ≤ 65518) (q0 : w.cell? ⟨b, 0, none⟩ = some (.int .i64 x.day)) (q1 : w.cell? ⟨b, 1, none⟩ = some (.string x.what)) (q2 : w.cell? ⟨b, 2, none⟩ = some (.int .i64 x.val)) :
    Calls Tryz.prog 261 #[.int .i64 st, .pointer (some ⟨b, 0, none⟩)] w fun e w' => e = .returned (.string (lineB st x)) ∧ Below w.heap.size w w' := by
  have hws := wordsB_small hx
  have hgd := okEn_good hx
  have hsm := okEn_small hx
  have hs2 : (asBytes (itoa st)).size ≤ 20 := by rw [asBytes_size]; exact itoa_len (by omega) (by omega)
  have n1 : ¬ (9223372036854775807 < (wordsB x).size + 1) := by omega
  have n2 : ¬ (9223372036854775807 < (wordsB x).size + 1 + (asBytes (itoa st)).size) := by omega
  have n3 : ¬ (9223372036854775807 < (wordsB x).size + 1 + (asBytes (itoa st)).size + 1) := by omega
  go_enter Tryz.func261, Tryz.ntmps261
  go_wp2_with fail
  refine (l27Words_any x b _ hgd hsm q0 q1 q2).mono ?_
  rintro e w1 ⟨rfl, b1⟩
  have HB1 := Lib.hid b1
  clear b1
  go_wp2_with fail
  refine (l01Dec_any st _ (by omega) (by omega)).mono ?_
  rintro e w2 ⟨rfl, b2⟩
  have HF := Lib.hid (bnext HB1.out b2 (Nat.le_refl _))
  clear b2
  go_wp2
  go_ret
  exact ⟨rfl, HF.out⟩

/-- The struct that the reference reads a log with lies in block g; its list lies elsewhere, from block lo on. -/
def LRec (lo g : Nat) (s : ByteArray) (w : World) (r : LogR) : Prop :=
  ∃ (A : Option Addr) (n d : Nat), Blk w g 212 #[.string s, .int .i64 (r.at_ : Int), .int .i64 r.stamp, .slice A n d] ∧ Sl w lo w.heap.size 253 3 A n d (ens r.list) ∧ (∀ ad, A = some ad → ad.block ≠ g) ∧ lo ≤ g
theorem LRec.on {lo g : Nat} {s : ByteArray} {w w' : World} {r : LogR} (h : LRec lo g s w r) (hb : Below w.heap.size w w') : LRec lo g s w' r := by
  obtain ⟨A, n, d, h1, h2, h3, h4⟩ := h
  exact ⟨A, n, d, h1.on hb, (h2.on hb).low, h3, h4⟩

set_option maxHeartbeats 4000000 in
set_option maxRecDepth 100000 in
theorem l27Day2_any (lo g : Nat) (s : ByteArray) (r : LogR) (w : World) (h : LRec lo g s w r) (hok : r.ok) (hn : r.at_ ≤ 1048576) :
    Calls Tryz.prog 258 #[.pointer (some ⟨g, 0, none⟩)] w fun e w' => e = .returned (.int .i64 (dayR r.list)) ∧ ∃ m, w' = w.drewN m := by
  obtain ⟨A, n, d, hb, hs, hne, hlo⟩ := h
  have q3 : w.cell? ⟨g, 3, none⟩ = some (.slice A n d) := hb.cellAt 3 (by simp)
  have hln : r.list.length = n := by have := hs.len; rw [ens_length] at this; omega
  have hn1 : n ≤ 1048576 := by have := hok.len; omega
  by_cases h0 : n = 0
  · have HO := Lib.hid (show dayR r.list = 0 by rw [List.length_eq_zero_iff.1 (hln.trans h0), dayR_nil])
    have hz0 : ((n : Int) == 0) = true := by rw [h0]; rfl
    clear hb hs hne
    go_enter Tryz.func258, Tryz.ntmps258
    go_wp2
    go_ret
    exact ⟨ret_int HO.out.symm, 0, rfl⟩
  · obtain ⟨j, rfl⟩ : ∃ j, n = j + 1 := ⟨n - 1, by omega⟩
    obtain ⟨y, lb, loff, hy, rfl, hlb, c0, _, _⟩ := en_at (k := j) (hs.reads (Nat.le_refl _)) (by omega)
    have HO := Lib.hid (show dayR r.list = y.day from dayR_last (by rw [hln]; exact hy))
    have hj0 : (0 : Int) ≤ j := by omega
    have hj1 : (j : Int) < (j : Int) + 1 := by omega
    have hj2 : ((j : Int) + 1 == 0) = false := by rw [beq_eq_false_iff_ne]; omega
    have hjw : IntKind.i64.wrap (j : Int) = j := by
      unfold IntKind.wrap; simp [IntKind.bits, IntKind.signed]; omega
    clear hb hs hne hy h0
    go_enter Tryz.func258, Tryz.ntmps258
    go_wp2_with fail
    refine wp_region_held_drew (S := (fun W => W.cell? ⟨g, 3, none⟩ = some (.slice (some ⟨lb, loff, none⟩) (j + 1) d) ∧ W.cell? ⟨lb, loff + j * 3, none⟩ = some (.int .i64 y.day))) (by kernel_rfl) ?_ (fun hHeld => ?_)
    · exact ⟨q3, c0⟩
    refine wpAnyH_take (i := 0) (v := ?_) rfl (by kernel_rfl) (by kernel_rfl) (by kernel_rfl) (fun _ _ _ h => h) (Or.inl ⟨by kernel_rfl, ?_⟩) (by assumption) ?_
    rotate_left 1
    · intro w hSw; (try dsimp only at hSw); go_simp; try with_reducible rfl
    try simp only [Act.put, List.getElem_toArray, List.getElem_cons_succ, List.getElem_cons_zero, List.setIfInBounds_toArray, List.set_cons_zero, List.set_cons_succ]
    refine wpAnyH_take (i := 1) (v := ?_) rfl (by kernel_rfl) (by kernel_rfl) (by kernel_rfl) (fun _ _ _ h => h) (Or.inl ⟨by kernel_rfl, ?_⟩) (by assumption) ?_
    rotate_left 1
    · intro w hSw; (try dsimp only at hSw); go_simp; try with_reducible rfl
    try simp only [Act.put, List.getElem_toArray, List.getElem_cons_succ, List.getElem_cons_zero, List.setIfInBounds_toArray, List.set_cons_zero, List.set_cons_succ]
    refine wpAnyH_take (i := 2) (v := ?_) rfl (by kernel_rfl) (by kernel_rfl) (by kernel_rfl) (fun _ _ _ h => h) (Or.inl ⟨by kernel_rfl, ?_⟩) (by assumption) ?_
    rotate_left 1
    · intro w hSw; (try dsimp only at hSw); go_simp; try with_reducible rfl
    try simp only [Act.put, List.getElem_toArray, List.getElem_cons_succ, List.getElem_cons_zero, List.setIfInBounds_toArray, List.set_cons_zero, List.set_cons_succ]
    refine wpAnyH_take (i := 3) (v := ?_) rfl (by kernel_rfl) (by kernel_rfl) (by kernel_rfl) (fun _ _ _ h => h) (Or.inl ⟨by kernel_rfl, ?_⟩) (by assumption) ?_
    rotate_left 1
    · intro w hSw; (try dsimp only at hSw); go_split_ands; go_simp; try with_reducible rfl
    try simp only [Act.put, List.getElem_toArray, List.getElem_cons_succ, List.getElem_cons_zero, List.setIfInBounds_toArray, List.set_cons_zero, List.set_cons_succ]
    refine wpAnyH_take (i := 4) (v := ?_) rfl (by kernel_rfl) (by kernel_rfl) (by kernel_rfl) (fun _ _ _ h => h) (Or.inl ⟨by kernel_rfl, ?_⟩) (by assumption) ?_
    rotate_left 1
    · intro w hSw; (try dsimp only at hSw); go_simp; try with_reducible rfl
    try simp only [Act.put, List.getElem_toArray, List.getElem_cons_succ, List.getElem_cons_zero, List.setIfInBounds_toArray, List.set_cons_zero, List.set_cons_succ]
    refine wpAnyH_take (i := 5) (v := ?_) rfl (by kernel_rfl) (by kernel_rfl) (by kernel_rfl) (fun _ _ _ h => h) (Or.inl ⟨by kernel_rfl, ?_⟩) (by assumption) ?_
    rotate_left 1
    · intro w hSw; (try dsimp only at hSw); go_simp; try with_reducible rfl
    try simp only [Act.put, List.getElem_toArray, List.getElem_cons_succ, List.getElem_cons_zero, List.setIfInBounds_toArray, List.set_cons_zero, List.set_cons_succ]
    refine wpAnyH_take (i := 6) (v := ?_) rfl (by kernel_rfl) (by kernel_rfl) (by kernel_rfl) (fun _ _ _ h => h) (Or.inl ⟨by kernel_rfl, ?_⟩) (by assumption) ?_
    rotate_left 1
    · intro w hSw; (try dsimp only at hSw); go_simp; try with_reducible rfl
    try simp only [Act.put, List.getElem_toArray, List.getElem_cons_succ, List.getElem_cons_zero, List.setIfInBounds_toArray, List.set_cons_zero, List.set_cons_succ]
    refine wpAnyH_take (i := 7) (v := ?_) rfl (by kernel_rfl) (by kernel_rfl) (by kernel_rfl) (fun _ _ _ h => h) (Or.inl ⟨by kernel_rfl, ?_⟩) (by assumption) ?_
    rotate_left 1
    · intro w hSw; (try dsimp only at hSw); go_split_ands; go_simp; try with_reducible rfl
    try simp only [Act.put, List.getElem_toArray, List.getElem_cons_succ, List.getElem_cons_zero, List.setIfInBounds_toArray, List.set_cons_zero, List.set_cons_succ]
    refine wpAnyH_take (i := 8) (v := ?_) rfl (by kernel_rfl) (by kernel_rfl) (by kernel_rfl) (fun _ _ _ h => h) (Or.inl ⟨by kernel_rfl, ?_⟩) (by assumption) ?_
    rotate_left 1
    · intro w hSw; (try dsimp only at hSw); go_simp; try with_reducible rfl
    try simp only [Act.put, List.getElem_toArray, List.getElem_cons_succ, List.getElem_cons_zero, List.setIfInBounds_toArray, List.set_cons_zero, List.set_cons_succ]
    refine wpAnyH_take (i := 9) (v := ?_) rfl (by kernel_rfl) (by kernel_rfl) (by kernel_rfl) (fun _ _ _ h => h) (Or.inl ⟨by kernel_rfl, ?_⟩) (by assumption) ?_
    rotate_left 1
    · intro w hSw; (try dsimp only at hSw); go_simp; try with_reducible rfl
    try simp only [Act.put, List.getElem_toArray, List.getElem_cons_succ, List.getElem_cons_zero, List.setIfInBounds_toArray, List.set_cons_zero, List.set_cons_succ]
    refine wpAnyH_take (i := 10) (v := ?_) rfl (by kernel_rfl) (by kernel_rfl) (by kernel_rfl) (fun _ _ _ h => h) (Or.inl ⟨by kernel_rfl, ?_⟩) (by assumption) ?_
    rotate_left 1
    · intro w hSw; (try dsimp only at hSw); go_simp; try with_reducible rfl
    try simp only [Act.put, List.getElem_toArray, List.getElem_cons_succ, List.getElem_cons_zero, List.setIfInBounds_toArray, List.set_cons_zero, List.set_cons_succ]
    refine wpAnyH_take (i := 11) (v := ?_) rfl (by kernel_rfl) (by kernel_rfl) (by kernel_rfl) (fun _ _ _ h => h) (Or.inl ⟨by kernel_rfl, ?_⟩) (by assumption) ?_
    rotate_left 1
    · intro w hSw; (try dsimp only at hSw); go_simp; try with_reducible rfl
    try simp only [Act.put, List.getElem_toArray, List.getElem_cons_succ, List.getElem_cons_zero, List.setIfInBounds_toArray, List.set_cons_zero, List.set_cons_succ]
    refine wpAnyH_take (i := 12) (v := ?_) rfl (by kernel_rfl) (by kernel_rfl) (by kernel_rfl) (fun _ _ _ h => h) (Or.inl ⟨by kernel_rfl, ?_⟩) (by assumption) ?_
    rotate_left 1
    · intro w hSw; (try dsimp only at hSw); go_split_ands; go_simp; try with_reducible rfl
    try simp only [Act.put, List.getElem_toArray, List.getElem_cons_succ, List.getElem_cons_zero, List.setIfInBounds_toArray, List.set_cons_zero, List.set_cons_succ]
    refine wpAnyH_take (i := 13) (v := ?_) rfl (by kernel_rfl) (by kernel_rfl) (by kernel_rfl) (fun _ _ _ h => h) (Or.inl ⟨by kernel_rfl, ?_⟩) (by assumption) ?_
    rotate_left 1
    · intro w hSw; (try dsimp only at hSw); go_simp; try with_reducible rfl
    try simp only [Act.put, List.getElem_toArray, List.getElem_cons_succ, List.getElem_cons_zero, List.setIfInBounds_toArray, List.set_cons_zero, List.set_cons_succ]
    refine wpAnyH_done (by kernel_rfl) ?_ _
    go_wp2
    go_ret
    exact ⟨ret_int HO.out.symm, 1, rfl⟩
end Go.Proofs.YtjmlcobbjpmjpaaGreatDoor
namespace Go.Proofs.YtjmlcobbjpmjpaaGreatDoor
open Go.RowKit Go.Lib

theorem four_sizes {line a b c d : ByteArray} (h : splitS 32 line = [a, b, c, d]) : a.size ≤ line.size ∧ b.size ≤ line.size ∧ c.size ≤ line.size ∧ d.size ≤ line.size := by
  have h1 := congrArg List.length (four_data h)
  simp only [List.length_append, List.length_cons, data_len] at h1
  omega
theorem sl_strs4 {w : World} {lo hi n k : Nat} {A : Option Addr} {a b c d : ByteArray} (h : Sl w lo hi 9 1 A n k (strs [a, b, c, d])) : n = 4 ∧ ∃ g, A = some ⟨g, 0, none⟩ ∧ w.cell? ⟨g, 0, none⟩ = some (.string a) ∧ w.cell? ⟨g, 1, none⟩ = some (.string b) ∧ w.cell? ⟨g, 2, none⟩ = some (.string c) ∧ w.cell? ⟨g, 3, none⟩ = some (.string d) := by
  have hn := h.len
  simp [strs] at hn
  subst hn
  obtain ⟨g, rfl, _, _, _⟩ := h.lt (by omega)
  exact ⟨rfl, g, rfl, h.cellAt 0 (by omega), h.cellAt 1 (by omega), h.cellAt 2 (by omega), h.cellAt 3 (by omega)⟩
theorem readN_fst {s : List UInt8} (h : isDec s = true) : (readN s).1 = numS s := by rw [readN_yes h]
set_option maxHeartbeats 4000000 in
set_option maxRecDepth 100000 in
theorem readLine_any (s : ByteArray) (m : Int) (w : World) (hs : s.size ≤ 1048576) (hm : w.cell? ⟨0, 0, none⟩ = some (.int .i64 m)) (ht : TabP w) (hv : SynP w) :
    Calls Tryz.prog 237 #[.string s] w fun e w' => ∃ (x : En) (st : Int) (b : Bool), e = .returned (.tuple #[.agg #[.int .i64 x.day, .string x.what, .int .i64 x.val], .int .i64 st, .bool b]) ∧ (b = true → lineF s = some (x, st)) ∧ (b = false → lineF s = none) ∧ Below w.heap.size w w' := by
  have HT := Lib.hid ht
  have HV := Lib.hid hv
  have hw0 : (w.alloc (.cells #[.int .i64 0, .string ⟨#[]⟩, .int .i64 0] 253)).cell? ⟨0, 0, none⟩ = some (.int .i64 m) := cell_on ((Below.refl _ _).alloc (Nat.le_refl _) _) hm
  have b0 : Below w.heap.size w (w.alloc (.cells #[.int .i64 0, .string ⟨#[]⟩, .int .i64 0] 253)) := (Below.refl _ _).alloc (Nat.le_refl _) _
  have y0 := Blk.new w 253 #[.int .i64 0, .string ⟨#[]⟩, .int .i64 0]
  clear ht hv
  by_cases h4 : (splitS 32 s).length = 4
  · obtain ⟨a, b, c, d, he⟩ := four_of h4
    obtain ⟨za, zb, zc, zd⟩ := four_sizes he
    rcases d1 : isDec a.data.toList with _ | _
    · have r1 : (readN a.data.toList).2 = false := by rw [readN_no d1]
      obtain ⟨q3, r3⟩ : ∃ v, (readN c.data.toList).2 = v := ⟨_, rfl⟩
      obtain ⟨q4, r4⟩ : ∃ v, (readN d.data.toList).2 = v := ⟨_, rfl⟩
      have HO := Lib.hid (show lineF s = none by rw [lineF_four he]; exact wordsF_no1 d1)
      go_enter Tryz.func237, Tryz.ntmps237
      go_wp2_with fail
      refine (strSplit_any s 32 m _ hs hw0).mono ?_
      rintro e w1 ⟨A, n, k, rfl, s1, b1⟩
      have y1 := y0.on b1
      have HB1 := Lib.hid (bnext b0 b1 (Nat.le_refl _))
      clear b1 b0 hw0 hm
      rw [he] at s1
      obtain ⟨rfl, g, rfl, c0, c1, c2, c3⟩ := sl_strs4 s1
      clear s1
      go_wp2_with fail
      refine (readDecimal_any a _ (by omega) (tabUp HT.out HB1.out) (synUp HV.out HB1.out)).mono ?_
      rintro e w2 ⟨rfl, b2⟩
      replace c1 := cell_on b2 c1
      replace c2 := cell_on b2 c2
      replace c3 := cell_on b2 c3
      have y2 := y1.on b2
      have HB2 := Lib.hid (bnext HB1.out b2 (Nat.le_refl _))
      clear b2 c0 y1
      go_wp2_with fail
      refine (readDecimal_any c _ (by omega) (tabUp HT.out HB2.out) (synUp HV.out HB2.out)).mono ?_
      rintro e w3 ⟨rfl, b3⟩
      replace c1 := cell_on b3 c1
      replace c3 := cell_on b3 c3
      have y3 := y2.on b3
      have HB3 := Lib.hid (bnext HB2.out b3 (Nat.le_refl _))
      clear b3 c2 y2
      go_wp2_with fail
      refine (readDecimal_any d _ (by omega) (tabUp HT.out HB3.out) (synUp HV.out HB3.out)).mono ?_
      rintro e w4 ⟨rfl, b4⟩
      replace c1 := cell_on b4 c1
      have y4 := y3.on b4
      have HB4 := Lib.hid (bnext HB3.out b4 (Nat.le_refl _))
      clear b4 c3 y3
      have x1 := readN_bd a.data.toList
      have x3 := readN_bd c.data.toList
      obtain ⟨n1, hn1⟩ : ∃ v, (readN a.data.toList).1 = v := ⟨_, rfl⟩
      obtain ⟨n3, hn3⟩ : ∃ v, (readN c.data.toList).1 = v := ⟨_, rfl⟩
      obtain ⟨n4, hn4⟩ : ∃ v, (readN d.data.toList).1 = v := ⟨_, rfl⟩
      simp only [hn1, hn3, hn4, r1, r3, r4] at x1 x3 ⊢
      have HN1 := Lib.hid hn1
      have HN3 := Lib.hid hn3
      have HN4 := Lib.hid hn4
      clear hn1 hn3 hn4
      go_wp2_with fail
      obtain ⟨wq, hwq⟩ : ∃ y, w4.alloc (.cells #[.int .i64 n1, .string b, .int .i64 n3] 253) = y := ⟨_, rfl⟩
      have bq : Below w4.heap.size w4 wq := by rw [← hwq]; exact (Below.refl _ _).alloc (Nat.le_refl _) _
      have yq : Blk wq w4.heap.size 253 #[.int .i64 n1, .string b, .int .i64 n3] := by rw [← hwq]; exact Blk.new _ _ _
      rw [hwq]
      clear hwq
      have yr := y4.on bq
      have HQ := Lib.hid (bnext HB4.out bq (Nat.le_refl _))
      have hne : w4.heap.size ≠ w.heap.size := by have := y4.lt; omega
      clear bq c1 y4
      go_wp2_with fail
      refine wp_region_held_drew (S := (fun W => Below w.heap.size w W ∧ Blk W w4.heap.size 253 #[.int .i64 n1, .string b, .int .i64 n3] ∧ ∃ v0 v1 v2, Blk W w.heap.size 253 #[v0, v1, v2])) (by kernel_rfl) ?_ (fun hHeld => ?_)
      · exact ⟨HQ.out.drew, yq.drew, ⟨_, _, _, yr.drew⟩⟩
      refine wpAnyH_take (i := 0) (v := ?_) rfl (by kernel_rfl) (by kernel_rfl) (by kernel_rfl) (fun _ _ _ h => h) (Or.inl ⟨by kernel_rfl, ?_⟩) (by assumption) ?_
      rotate_left 1
      · intro w hSw; (try dsimp only at hSw); (have e0 := hSw.2.1.cellAt 0 (by simp)); (have e1 := hSw.2.1.cellAt 1 (by simp)); (have e2 := hSw.2.1.cellAt 2 (by simp)); go_simp; try with_reducible rfl
      try simp only [Act.put, List.getElem_toArray, List.getElem_cons_succ, List.getElem_cons_zero, List.setIfInBounds_toArray, List.set_cons_zero, List.set_cons_succ]
      refine wpAnyH_take (i := 1) (v := ?_) rfl (by kernel_rfl) (by kernel_rfl) (by kernel_rfl) (fun _ _ _ h => h) (Or.inl ⟨by kernel_rfl, ?_⟩) (by assumption) ?_
      rotate_left 1
      · intro w hSw; (try dsimp only at hSw); go_simp; try with_reducible rfl
      try simp only [Act.put, List.getElem_toArray, List.getElem_cons_succ, List.getElem_cons_zero, List.setIfInBounds_toArray, List.set_cons_zero, List.set_cons_succ]
      refine wpAnyH_take (i := 2) (v := ?_) rfl (by kernel_rfl) (by kernel_rfl) (by kernel_rfl) (fun _ _ _ h => h) (Or.inl ⟨by kernel_rfl, ?_⟩) (by assumption) ?_
      rotate_left 1
      · intro w hSw; (try dsimp only at hSw); go_simp; try with_reducible rfl
      try simp only [Act.put, List.getElem_toArray, List.getElem_cons_succ, List.getElem_cons_zero, List.setIfInBounds_toArray, List.set_cons_zero, List.set_cons_succ]
      refine wpAnyH_take (i := 3) (v := ?_) rfl (by kernel_rfl) (by kernel_rfl) (by kernel_rfl) (fun _ _ _ h => h) (Or.inl ⟨by kernel_rfl, ?_⟩) (by assumption) ?_
      rotate_left 1
      · intro w hSw; (try dsimp only at hSw); go_simp; try with_reducible rfl
      try simp only [Act.put, List.getElem_toArray, List.getElem_cons_succ, List.getElem_cons_zero, List.setIfInBounds_toArray, List.set_cons_zero, List.set_cons_succ]
      refine wpAnyH_take (i := 4) (v := undef) rfl (by kernel_rfl) (by kernel_rfl) (by kernel_rfl) (fun _ _ _ h => h) (Or.inr ⟨by kernel_rfl, rfl⟩) (by assumption) ?_
      try simp only [Act.put, List.getElem_toArray, List.getElem_cons_succ, List.getElem_cons_zero, List.setIfInBounds_toArray, List.set_cons_zero, List.set_cons_succ]
      refine wpAnyH_take (i := 5) (v := ?_) rfl (by kernel_rfl) (by kernel_rfl) (by kernel_rfl) (fun _ _ _ h => h) (Or.inl ⟨by kernel_rfl, ?_⟩) (by assumption) ?_
      rotate_left 1
      · intro w hSw; (try dsimp only at hSw); go_simp; try with_reducible rfl
      try simp only [Act.put, List.getElem_toArray, List.getElem_cons_succ, List.getElem_cons_zero, List.setIfInBounds_toArray, List.set_cons_zero, List.set_cons_succ]
      refine wpAnyH_take (i := 6) (v := ?_) rfl (by kernel_rfl) (by kernel_rfl) (by kernel_rfl) (fun _ _ _ h => h) (Or.inl ⟨by kernel_rfl, ?_⟩) (by assumption) ?_
      rotate_left 1
      · intro w hSw; (try dsimp only at hSw); go_simp; try with_reducible rfl
      try simp only [Act.put, List.getElem_toArray, List.getElem_cons_succ, List.getElem_cons_zero, List.setIfInBounds_toArray, List.set_cons_zero, List.set_cons_succ]
      refine wpAnyH_take (i := 7) (v := undef) rfl (by kernel_rfl) (by kernel_rfl) (by kernel_rfl) (fun _ _ _ h => h) (Or.inr ⟨by kernel_rfl, rfl⟩) (by assumption) ?_
      try simp only [Act.put, List.getElem_toArray, List.getElem_cons_succ, List.getElem_cons_zero, List.setIfInBounds_toArray, List.set_cons_zero, List.set_cons_succ]
      refine wpAnyH_take (i := 8) (v := ?_) rfl (by kernel_rfl) (by kernel_rfl) (by kernel_rfl) (fun _ _ _ h => h) (Or.inl ⟨by kernel_rfl, ?_⟩) (by assumption) ?_
      rotate_left 1
      · intro w hSw; (try dsimp only at hSw); go_simp; try with_reducible rfl
      try simp only [Act.put, List.getElem_toArray, List.getElem_cons_succ, List.getElem_cons_zero, List.setIfInBounds_toArray, List.set_cons_zero, List.set_cons_succ]
      refine wpAnyH_take (i := 9) (v := ?_) rfl (by kernel_rfl) (by kernel_rfl) (by kernel_rfl) (fun _ _ _ h => h) (Or.inl ⟨by kernel_rfl, ?_⟩) (by assumption) ?_
      rotate_left 1
      · intro w hSw; (try dsimp only at hSw); go_simp; try with_reducible rfl
      try simp only [Act.put, List.getElem_toArray, List.getElem_cons_succ, List.getElem_cons_zero, List.setIfInBounds_toArray, List.set_cons_zero, List.set_cons_succ]
      refine wpAnyH_take (i := 10) (v := undef) rfl (by kernel_rfl) (by kernel_rfl) (by kernel_rfl) (fun _ _ _ h => h) (Or.inr ⟨by kernel_rfl, rfl⟩) (by assumption) ?_
      try simp only [Act.put, List.getElem_toArray, List.getElem_cons_succ, List.getElem_cons_zero, List.setIfInBounds_toArray, List.set_cons_zero, List.set_cons_succ]
      refine wpAnyH_take (i := 11) (v := undef) rfl (by kernel_rfl) (by kernel_rfl) (by kernel_rfl) (fun _ _ _ h => h) (Or.inr ⟨by kernel_rfl, rfl⟩) (by assumption) ?_
      try simp only [Act.put, List.getElem_toArray, List.getElem_cons_succ, List.getElem_cons_zero, List.setIfInBounds_toArray, List.set_cons_zero, List.set_cons_succ]
      refine wpAnyH_take (i := 12) (v := ?_) rfl (by kernel_rfl) (by kernel_rfl) (by kernel_rfl) (fun _ _ _ h => h) (Or.inl ⟨by kernel_rfl, ?_⟩) (by assumption) ?_
      rotate_left 1
      · intro w hSw; (try dsimp only at hSw); go_simp; try with_reducible rfl
      try simp only [Act.put, List.getElem_toArray, List.getElem_cons_succ, List.getElem_cons_zero, List.setIfInBounds_toArray, List.set_cons_zero, List.set_cons_succ]
      refine wpAnyH_ready (rs := [13]) (by kernel_rfl) (by simp) ?_
      refine AllReadyH.cons rfl (fun K hK => ?_) AllReadyH.nil
      obtain ⟨v0, v1, v2, hv⟩ := hHeld.2.2
      have hc0 := hv.cellAt 0 (by simp)
      have hc1 := hv.cellAt 1 (by simp)
      have hc2 := hv.cellAt 2 (by simp)
      have hf0 := hv.frozen 0
      have hf1 := hv.frozen 1
      have hf2 := hv.frozen 2
      (try simp only [World.cell?_drew, World.frozen?_drew] at hc0 hc1 hc2 hf0 hf1 hf2)
      go_simp
      refine hK.out _ _ ?_ (fun hNew => ?_)
      · exact ⟨((hHeld.1.setCell (Nat.le_refl _) _).setCell (Nat.le_refl _) _).setCell (Nat.le_refl _) _, ((hHeld.2.1.far hne _).far hne _).far hne _, by obtain ⟨v0, v1, v2, hv⟩ := hHeld.2.2; exact ⟨_, _, _, ((hv.set_ 0 _).set_ 1 _).set_ 2 _⟩⟩
      clear hK K hHeld
      have hHeld := hNew
      clear hNew
      try simp only [Act.put, List.getElem_toArray, List.getElem_cons_succ, List.getElem_cons_zero, List.setIfInBounds_toArray, List.set_cons_zero, List.set_cons_succ]
      refine wpAnyH_take (i := 14) (v := ?_) rfl (by kernel_rfl) (by kernel_rfl) (by kernel_rfl) (fun _ _ _ h => h) (Or.inl ⟨by kernel_rfl, ?_⟩) (by assumption) ?_
      rotate_left 1
      · intro w hSw; (try dsimp only at hSw); go_simp; try with_reducible rfl
      try simp only [Act.put, List.getElem_toArray, List.getElem_cons_succ, List.getElem_cons_zero, List.setIfInBounds_toArray, List.set_cons_zero, List.set_cons_succ]
      refine wpAnyH_take (i := 15) (v := ?_) rfl (by kernel_rfl) (by kernel_rfl) (by kernel_rfl) (fun _ _ _ h => h) (Or.inl ⟨by kernel_rfl, ?_⟩) (by assumption) ?_
      rotate_left 1
      · intro w hSw; (try dsimp only at hSw); go_simp; try with_reducible rfl
      try simp only [Act.put, List.getElem_toArray, List.getElem_cons_succ, List.getElem_cons_zero, List.setIfInBounds_toArray, List.set_cons_zero, List.set_cons_succ]
      refine wpAnyH_done (by kernel_rfl) ?_ _
      go_wp2
      exact bodyPost_ret (v := .tuple #[.agg #[.int .i64 n1, .string b, .int .i64 n3], .int .i64 n4, .bool false]) (by simp [results, Tryz.results237, go_sem, hc0, hc1, hc2]) rfl ⟨⟨n1, b, n3⟩, n4, false, rfl, (fun h => by cases h), (fun _ => HO.out), hHeld.1⟩
    · have r1 : (readN a.data.toList).2 = true := by rw [readN_yes d1]
      rcases d3 : isDec c.data.toList with _ | _
      · have r3 : (readN c.data.toList).2 = false := by rw [readN_no d3]
        obtain ⟨q4, r4⟩ : ∃ v, (readN d.data.toList).2 = v := ⟨_, rfl⟩
        have HO := Lib.hid (show lineF s = none by rw [lineF_four he]; exact wordsF_no2 d3)
        go_enter Tryz.func237, Tryz.ntmps237
        go_wp2_with fail
        refine (strSplit_any s 32 m _ hs hw0).mono ?_
        rintro e w1 ⟨A, n, k, rfl, s1, b1⟩
        have y1 := y0.on b1
        have HB1 := Lib.hid (bnext b0 b1 (Nat.le_refl _))
        clear b1 b0 hw0 hm
        rw [he] at s1
        obtain ⟨rfl, g, rfl, c0, c1, c2, c3⟩ := sl_strs4 s1
        clear s1
        go_wp2_with fail
        refine (readDecimal_any a _ (by omega) (tabUp HT.out HB1.out) (synUp HV.out HB1.out)).mono ?_
        rintro e w2 ⟨rfl, b2⟩
        replace c1 := cell_on b2 c1
        replace c2 := cell_on b2 c2
        replace c3 := cell_on b2 c3
        have y2 := y1.on b2
        have HB2 := Lib.hid (bnext HB1.out b2 (Nat.le_refl _))
        clear b2 c0 y1
        go_wp2_with fail
        refine (readDecimal_any c _ (by omega) (tabUp HT.out HB2.out) (synUp HV.out HB2.out)).mono ?_
        rintro e w3 ⟨rfl, b3⟩
        replace c1 := cell_on b3 c1
        replace c3 := cell_on b3 c3
        have y3 := y2.on b3
        have HB3 := Lib.hid (bnext HB2.out b3 (Nat.le_refl _))
        clear b3 c2 y2
        go_wp2_with fail
        refine (readDecimal_any d _ (by omega) (tabUp HT.out HB3.out) (synUp HV.out HB3.out)).mono ?_
        rintro e w4 ⟨rfl, b4⟩
        replace c1 := cell_on b4 c1
        have y4 := y3.on b4
        have HB4 := Lib.hid (bnext HB3.out b4 (Nat.le_refl _))
        clear b4 c3 y3
        have x1 := readN_bd a.data.toList
        have x3 := readN_bd c.data.toList
        obtain ⟨n1, hn1⟩ : ∃ v, (readN a.data.toList).1 = v := ⟨_, rfl⟩
        obtain ⟨n3, hn3⟩ : ∃ v, (readN c.data.toList).1 = v := ⟨_, rfl⟩
        obtain ⟨n4, hn4⟩ : ∃ v, (readN d.data.toList).1 = v := ⟨_, rfl⟩
        simp only [hn1, hn3, hn4, r1, r3, r4] at x1 x3 ⊢
        have HN1 := Lib.hid hn1
        have HN3 := Lib.hid hn3
        have HN4 := Lib.hid hn4
        clear hn1 hn3 hn4
        go_wp2_with fail
        obtain ⟨wq, hwq⟩ : ∃ y, w4.alloc (.cells #[.int .i64 n1, .string b, .int .i64 n3] 253) = y := ⟨_, rfl⟩
        have bq : Below w4.heap.size w4 wq := by rw [← hwq]; exact (Below.refl _ _).alloc (Nat.le_refl _) _
        have yq : Blk wq w4.heap.size 253 #[.int .i64 n1, .string b, .int .i64 n3] := by rw [← hwq]; exact Blk.new _ _ _
        rw [hwq]
        clear hwq
        have yr := y4.on bq
        have HQ := Lib.hid (bnext HB4.out bq (Nat.le_refl _))
        have hne : w4.heap.size ≠ w.heap.size := by have := y4.lt; omega
        clear bq c1 y4
        go_wp2_with fail
        refine wp_region_held_drew (S := (fun W => Below w.heap.size w W ∧ Blk W w4.heap.size 253 #[.int .i64 n1, .string b, .int .i64 n3] ∧ ∃ v0 v1 v2, Blk W w.heap.size 253 #[v0, v1, v2])) (by kernel_rfl) ?_ (fun hHeld => ?_)
        · exact ⟨HQ.out.drew, yq.drew, ⟨_, _, _, yr.drew⟩⟩
        refine wpAnyH_take (i := 0) (v := ?_) rfl (by kernel_rfl) (by kernel_rfl) (by kernel_rfl) (fun _ _ _ h => h) (Or.inl ⟨by kernel_rfl, ?_⟩) (by assumption) ?_
        rotate_left 1
        · intro w hSw; (try dsimp only at hSw); (have e0 := hSw.2.1.cellAt 0 (by simp)); (have e1 := hSw.2.1.cellAt 1 (by simp)); (have e2 := hSw.2.1.cellAt 2 (by simp)); go_simp; try with_reducible rfl
        try simp only [Act.put, List.getElem_toArray, List.getElem_cons_succ, List.getElem_cons_zero, List.setIfInBounds_toArray, List.set_cons_zero, List.set_cons_succ]
        refine wpAnyH_take (i := 1) (v := ?_) rfl (by kernel_rfl) (by kernel_rfl) (by kernel_rfl) (fun _ _ _ h => h) (Or.inl ⟨by kernel_rfl, ?_⟩) (by assumption) ?_
        rotate_left 1
        · intro w hSw; (try dsimp only at hSw); go_simp; try with_reducible rfl
        try simp only [Act.put, List.getElem_toArray, List.getElem_cons_succ, List.getElem_cons_zero, List.setIfInBounds_toArray, List.set_cons_zero, List.set_cons_succ]
        refine wpAnyH_take (i := 2) (v := ?_) rfl (by kernel_rfl) (by kernel_rfl) (by kernel_rfl) (fun _ _ _ h => h) (Or.inl ⟨by kernel_rfl, ?_⟩) (by assumption) ?_
        rotate_left 1
        · intro w hSw; (try dsimp only at hSw); go_simp; try with_reducible rfl
        try simp only [Act.put, List.getElem_toArray, List.getElem_cons_succ, List.getElem_cons_zero, List.setIfInBounds_toArray, List.set_cons_zero, List.set_cons_succ]
        refine wpAnyH_take (i := 3) (v := ?_) rfl (by kernel_rfl) (by kernel_rfl) (by kernel_rfl) (fun _ _ _ h => h) (Or.inl ⟨by kernel_rfl, ?_⟩) (by assumption) ?_
        rotate_left 1
        · intro w hSw; (try dsimp only at hSw); go_simp; try with_reducible rfl
        try simp only [Act.put, List.getElem_toArray, List.getElem_cons_succ, List.getElem_cons_zero, List.setIfInBounds_toArray, List.set_cons_zero, List.set_cons_succ]
        refine wpAnyH_take (i := 4) (v := ?_) rfl (by kernel_rfl) (by kernel_rfl) (by kernel_rfl) (fun _ _ _ h => h) (Or.inl ⟨by kernel_rfl, ?_⟩) (by assumption) ?_
        rotate_left 1
        · intro w hSw; (try dsimp only at hSw); go_simp; try with_reducible rfl
        try simp only [Act.put, List.getElem_toArray, List.getElem_cons_succ, List.getElem_cons_zero, List.setIfInBounds_toArray, List.set_cons_zero, List.set_cons_succ]
        refine wpAnyH_take (i := 5) (v := ?_) rfl (by kernel_rfl) (by kernel_rfl) (by kernel_rfl) (fun _ _ _ h => h) (Or.inl ⟨by kernel_rfl, ?_⟩) (by assumption) ?_
        rotate_left 1
        · intro w hSw; (try dsimp only at hSw); go_simp; try with_reducible rfl
        try simp only [Act.put, List.getElem_toArray, List.getElem_cons_succ, List.getElem_cons_zero, List.setIfInBounds_toArray, List.set_cons_zero, List.set_cons_succ]
        refine wpAnyH_take (i := 6) (v := ?_) rfl (by kernel_rfl) (by kernel_rfl) (by kernel_rfl) (fun _ _ _ h => h) (Or.inl ⟨by kernel_rfl, ?_⟩) (by assumption) ?_
        rotate_left 1
        · intro w hSw; (try dsimp only at hSw); go_simp; try with_reducible rfl
        try simp only [Act.put, List.getElem_toArray, List.getElem_cons_succ, List.getElem_cons_zero, List.setIfInBounds_toArray, List.set_cons_zero, List.set_cons_succ]
        refine wpAnyH_take (i := 7) (v := undef) rfl (by kernel_rfl) (by kernel_rfl) (by kernel_rfl) (fun _ _ _ h => h) (Or.inr ⟨by kernel_rfl, rfl⟩) (by assumption) ?_
        try simp only [Act.put, List.getElem_toArray, List.getElem_cons_succ, List.getElem_cons_zero, List.setIfInBounds_toArray, List.set_cons_zero, List.set_cons_succ]
        refine wpAnyH_take (i := 8) (v := ?_) rfl (by kernel_rfl) (by kernel_rfl) (by kernel_rfl) (fun _ _ _ h => h) (Or.inl ⟨by kernel_rfl, ?_⟩) (by assumption) ?_
        rotate_left 1
        · intro w hSw; (try dsimp only at hSw); go_simp; try with_reducible rfl
        try simp only [Act.put, List.getElem_toArray, List.getElem_cons_succ, List.getElem_cons_zero, List.setIfInBounds_toArray, List.set_cons_zero, List.set_cons_succ]
        refine wpAnyH_take (i := 9) (v := ?_) rfl (by kernel_rfl) (by kernel_rfl) (by kernel_rfl) (fun _ _ _ h => h) (Or.inl ⟨by kernel_rfl, ?_⟩) (by assumption) ?_
        rotate_left 1
        · intro w hSw; (try dsimp only at hSw); go_simp; try with_reducible rfl
        try simp only [Act.put, List.getElem_toArray, List.getElem_cons_succ, List.getElem_cons_zero, List.setIfInBounds_toArray, List.set_cons_zero, List.set_cons_succ]
        refine wpAnyH_take (i := 10) (v := undef) rfl (by kernel_rfl) (by kernel_rfl) (by kernel_rfl) (fun _ _ _ h => h) (Or.inr ⟨by kernel_rfl, rfl⟩) (by assumption) ?_
        try simp only [Act.put, List.getElem_toArray, List.getElem_cons_succ, List.getElem_cons_zero, List.setIfInBounds_toArray, List.set_cons_zero, List.set_cons_succ]
        refine wpAnyH_take (i := 11) (v := undef) rfl (by kernel_rfl) (by kernel_rfl) (by kernel_rfl) (fun _ _ _ h => h) (Or.inr ⟨by kernel_rfl, rfl⟩) (by assumption) ?_
        try simp only [Act.put, List.getElem_toArray, List.getElem_cons_succ, List.getElem_cons_zero, List.setIfInBounds_toArray, List.set_cons_zero, List.set_cons_succ]
        refine wpAnyH_take (i := 12) (v := ?_) rfl (by kernel_rfl) (by kernel_rfl) (by kernel_rfl) (fun _ _ _ h => h) (Or.inl ⟨by kernel_rfl, ?_⟩) (by assumption) ?_
        rotate_left 1
        · intro w hSw; (try dsimp only at hSw); go_simp; try with_reducible rfl
        try simp only [Act.put, List.getElem_toArray, List.getElem_cons_succ, List.getElem_cons_zero, List.setIfInBounds_toArray, List.set_cons_zero, List.set_cons_succ]
        refine wpAnyH_ready (rs := [13]) (by kernel_rfl) (by simp) ?_
        refine AllReadyH.cons rfl (fun K hK => ?_) AllReadyH.nil
        obtain ⟨v0, v1, v2, hv⟩ := hHeld.2.2
        have hc0 := hv.cellAt 0 (by simp)
        have hc1 := hv.cellAt 1 (by simp)
        have hc2 := hv.cellAt 2 (by simp)
        have hf0 := hv.frozen 0
        have hf1 := hv.frozen 1
        have hf2 := hv.frozen 2
        (try simp only [World.cell?_drew, World.frozen?_drew] at hc0 hc1 hc2 hf0 hf1 hf2)
        go_simp
        refine hK.out _ _ ?_ (fun hNew => ?_)
        · exact ⟨((hHeld.1.setCell (Nat.le_refl _) _).setCell (Nat.le_refl _) _).setCell (Nat.le_refl _) _, ((hHeld.2.1.far hne _).far hne _).far hne _, by obtain ⟨v0, v1, v2, hv⟩ := hHeld.2.2; exact ⟨_, _, _, ((hv.set_ 0 _).set_ 1 _).set_ 2 _⟩⟩
        clear hK K hHeld
        have hHeld := hNew
        clear hNew
        try simp only [Act.put, List.getElem_toArray, List.getElem_cons_succ, List.getElem_cons_zero, List.setIfInBounds_toArray, List.set_cons_zero, List.set_cons_succ]
        refine wpAnyH_take (i := 14) (v := ?_) rfl (by kernel_rfl) (by kernel_rfl) (by kernel_rfl) (fun _ _ _ h => h) (Or.inl ⟨by kernel_rfl, ?_⟩) (by assumption) ?_
        rotate_left 1
        · intro w hSw; (try dsimp only at hSw); go_simp; try with_reducible rfl
        try simp only [Act.put, List.getElem_toArray, List.getElem_cons_succ, List.getElem_cons_zero, List.setIfInBounds_toArray, List.set_cons_zero, List.set_cons_succ]
        refine wpAnyH_take (i := 15) (v := ?_) rfl (by kernel_rfl) (by kernel_rfl) (by kernel_rfl) (fun _ _ _ h => h) (Or.inl ⟨by kernel_rfl, ?_⟩) (by assumption) ?_
        rotate_left 1
        · intro w hSw; (try dsimp only at hSw); go_simp; try with_reducible rfl
        try simp only [Act.put, List.getElem_toArray, List.getElem_cons_succ, List.getElem_cons_zero, List.setIfInBounds_toArray, List.set_cons_zero, List.set_cons_succ]
        refine wpAnyH_done (by kernel_rfl) ?_ _
        go_wp2
        exact bodyPost_ret (v := .tuple #[.agg #[.int .i64 n1, .string b, .int .i64 n3], .int .i64 n4, .bool false]) (by simp [results, Tryz.results237, go_sem, hc0, hc1, hc2]) rfl ⟨⟨n1, b, n3⟩, n4, false, rfl, (fun h => by cases h), (fun _ => HO.out), hHeld.1⟩
      · have r3 : (readN c.data.toList).2 = true := by rw [readN_yes d3]
        rcases d4 : isDec d.data.toList with _ | _
        · have r4 : (readN d.data.toList).2 = false := by rw [readN_no d4]
          have HO := Lib.hid (show lineF s = none by rw [lineF_four he]; exact wordsF_no3 d4)
          go_enter Tryz.func237, Tryz.ntmps237
          go_wp2_with fail
          refine (strSplit_any s 32 m _ hs hw0).mono ?_
          rintro e w1 ⟨A, n, k, rfl, s1, b1⟩
          have y1 := y0.on b1
          have HB1 := Lib.hid (bnext b0 b1 (Nat.le_refl _))
          clear b1 b0 hw0 hm
          rw [he] at s1
          obtain ⟨rfl, g, rfl, c0, c1, c2, c3⟩ := sl_strs4 s1
          clear s1
          go_wp2_with fail
          refine (readDecimal_any a _ (by omega) (tabUp HT.out HB1.out) (synUp HV.out HB1.out)).mono ?_
          rintro e w2 ⟨rfl, b2⟩
          replace c1 := cell_on b2 c1
          replace c2 := cell_on b2 c2
          replace c3 := cell_on b2 c3
          have y2 := y1.on b2
          have HB2 := Lib.hid (bnext HB1.out b2 (Nat.le_refl _))
          clear b2 c0 y1
          go_wp2_with fail
          refine (readDecimal_any c _ (by omega) (tabUp HT.out HB2.out) (synUp HV.out HB2.out)).mono ?_
          rintro e w3 ⟨rfl, b3⟩
          replace c1 := cell_on b3 c1
          replace c3 := cell_on b3 c3
          have y3 := y2.on b3
          have HB3 := Lib.hid (bnext HB2.out b3 (Nat.le_refl _))
          clear b3 c2 y2
          go_wp2_with fail
          refine (readDecimal_any d _ (by omega) (tabUp HT.out HB3.out) (synUp HV.out HB3.out)).mono ?_
          rintro e w4 ⟨rfl, b4⟩
          replace c1 := cell_on b4 c1
          have y4 := y3.on b4
          have HB4 := Lib.hid (bnext HB3.out b4 (Nat.le_refl _))
          clear b4 c3 y3
          have x1 := readN_bd a.data.toList
          have x3 := readN_bd c.data.toList
          obtain ⟨n1, hn1⟩ : ∃ v, (readN a.data.toList).1 = v := ⟨_, rfl⟩
          obtain ⟨n3, hn3⟩ : ∃ v, (readN c.data.toList).1 = v := ⟨_, rfl⟩
          obtain ⟨n4, hn4⟩ : ∃ v, (readN d.data.toList).1 = v := ⟨_, rfl⟩
          simp only [hn1, hn3, hn4, r1, r3, r4] at x1 x3 ⊢
          have HN1 := Lib.hid hn1
          have HN3 := Lib.hid hn3
          have HN4 := Lib.hid hn4
          clear hn1 hn3 hn4
          go_wp2_with fail
          obtain ⟨wq, hwq⟩ : ∃ y, w4.alloc (.cells #[.int .i64 n1, .string b, .int .i64 n3] 253) = y := ⟨_, rfl⟩
          have bq : Below w4.heap.size w4 wq := by rw [← hwq]; exact (Below.refl _ _).alloc (Nat.le_refl _) _
          have yq : Blk wq w4.heap.size 253 #[.int .i64 n1, .string b, .int .i64 n3] := by rw [← hwq]; exact Blk.new _ _ _
          rw [hwq]
          clear hwq
          have yr := y4.on bq
          have HQ := Lib.hid (bnext HB4.out bq (Nat.le_refl _))
          have hne : w4.heap.size ≠ w.heap.size := by have := y4.lt; omega
          clear bq c1 y4
          go_wp2_with fail
          refine wp_region_held_drew (S := (fun W => Below w.heap.size w W ∧ Blk W w4.heap.size 253 #[.int .i64 n1, .string b, .int .i64 n3] ∧ ∃ v0 v1 v2, Blk W w.heap.size 253 #[v0, v1, v2])) (by kernel_rfl) ?_ (fun hHeld => ?_)
          · exact ⟨HQ.out.drew, yq.drew, ⟨_, _, _, yr.drew⟩⟩
          refine wpAnyH_take (i := 0) (v := ?_) rfl (by kernel_rfl) (by kernel_rfl) (by kernel_rfl) (fun _ _ _ h => h) (Or.inl ⟨by kernel_rfl, ?_⟩) (by assumption) ?_
          rotate_left 1
          · intro w hSw; (try dsimp only at hSw); (have e0 := hSw.2.1.cellAt 0 (by simp)); (have e1 := hSw.2.1.cellAt 1 (by simp)); (have e2 := hSw.2.1.cellAt 2 (by simp)); go_simp; try with_reducible rfl
          try simp only [Act.put, List.getElem_toArray, List.getElem_cons_succ, List.getElem_cons_zero, List.setIfInBounds_toArray, List.set_cons_zero, List.set_cons_succ]
          refine wpAnyH_take (i := 1) (v := ?_) rfl (by kernel_rfl) (by kernel_rfl) (by kernel_rfl) (fun _ _ _ h => h) (Or.inl ⟨by kernel_rfl, ?_⟩) (by assumption) ?_
          rotate_left 1
          · intro w hSw; (try dsimp only at hSw); go_simp; try with_reducible rfl
          try simp only [Act.put, List.getElem_toArray, List.getElem_cons_succ, List.getElem_cons_zero, List.setIfInBounds_toArray, List.set_cons_zero, List.set_cons_succ]
          refine wpAnyH_take (i := 2) (v := ?_) rfl (by kernel_rfl) (by kernel_rfl) (by kernel_rfl) (fun _ _ _ h => h) (Or.inl ⟨by kernel_rfl, ?_⟩) (by assumption) ?_
          rotate_left 1
          · intro w hSw; (try dsimp only at hSw); go_simp; try with_reducible rfl
          try simp only [Act.put, List.getElem_toArray, List.getElem_cons_succ, List.getElem_cons_zero, List.setIfInBounds_toArray, List.set_cons_zero, List.set_cons_succ]
          refine wpAnyH_take (i := 3) (v := ?_) rfl (by kernel_rfl) (by kernel_rfl) (by kernel_rfl) (fun _ _ _ h => h) (Or.inl ⟨by kernel_rfl, ?_⟩) (by assumption) ?_
          rotate_left 1
          · intro w hSw; (try dsimp only at hSw); go_simp; try with_reducible rfl
          try simp only [Act.put, List.getElem_toArray, List.getElem_cons_succ, List.getElem_cons_zero, List.setIfInBounds_toArray, List.set_cons_zero, List.set_cons_succ]
          refine wpAnyH_take (i := 4) (v := ?_) rfl (by kernel_rfl) (by kernel_rfl) (by kernel_rfl) (fun _ _ _ h => h) (Or.inl ⟨by kernel_rfl, ?_⟩) (by assumption) ?_
          rotate_left 1
          · intro w hSw; (try dsimp only at hSw); go_simp; try with_reducible rfl
          try simp only [Act.put, List.getElem_toArray, List.getElem_cons_succ, List.getElem_cons_zero, List.setIfInBounds_toArray, List.set_cons_zero, List.set_cons_succ]
          refine wpAnyH_take (i := 5) (v := ?_) rfl (by kernel_rfl) (by kernel_rfl) (by kernel_rfl) (fun _ _ _ h => h) (Or.inl ⟨by kernel_rfl, ?_⟩) (by assumption) ?_
          rotate_left 1
          · intro w hSw; (try dsimp only at hSw); go_simp; try with_reducible rfl
          try simp only [Act.put, List.getElem_toArray, List.getElem_cons_succ, List.getElem_cons_zero, List.setIfInBounds_toArray, List.set_cons_zero, List.set_cons_succ]
          refine wpAnyH_take (i := 6) (v := ?_) rfl (by kernel_rfl) (by kernel_rfl) (by kernel_rfl) (fun _ _ _ h => h) (Or.inl ⟨by kernel_rfl, ?_⟩) (by assumption) ?_
          rotate_left 1
          · intro w hSw; (try dsimp only at hSw); go_simp; try with_reducible rfl
          try simp only [Act.put, List.getElem_toArray, List.getElem_cons_succ, List.getElem_cons_zero, List.setIfInBounds_toArray, List.set_cons_zero, List.set_cons_succ]
          refine wpAnyH_take (i := 7) (v := ?_) rfl (by kernel_rfl) (by kernel_rfl) (by kernel_rfl) (fun _ _ _ h => h) (Or.inl ⟨by kernel_rfl, ?_⟩) (by assumption) ?_
          rotate_left 1
          · intro w hSw; (try dsimp only at hSw); go_simp; try with_reducible rfl
          try simp only [Act.put, List.getElem_toArray, List.getElem_cons_succ, List.getElem_cons_zero, List.setIfInBounds_toArray, List.set_cons_zero, List.set_cons_succ]
          refine wpAnyH_take (i := 8) (v := ?_) rfl (by kernel_rfl) (by kernel_rfl) (by kernel_rfl) (fun _ _ _ h => h) (Or.inl ⟨by kernel_rfl, ?_⟩) (by assumption) ?_
          rotate_left 1
          · intro w hSw; (try dsimp only at hSw); go_simp; try with_reducible rfl
          try simp only [Act.put, List.getElem_toArray, List.getElem_cons_succ, List.getElem_cons_zero, List.setIfInBounds_toArray, List.set_cons_zero, List.set_cons_succ]
          refine wpAnyH_take (i := 9) (v := ?_) rfl (by kernel_rfl) (by kernel_rfl) (by kernel_rfl) (fun _ _ _ h => h) (Or.inl ⟨by kernel_rfl, ?_⟩) (by assumption) ?_
          rotate_left 1
          · intro w hSw; (try dsimp only at hSw); go_simp; try with_reducible rfl
          try simp only [Act.put, List.getElem_toArray, List.getElem_cons_succ, List.getElem_cons_zero, List.setIfInBounds_toArray, List.set_cons_zero, List.set_cons_succ]
          refine wpAnyH_take (i := 10) (v := undef) rfl (by kernel_rfl) (by kernel_rfl) (by kernel_rfl) (fun _ _ _ h => h) (Or.inr ⟨by kernel_rfl, rfl⟩) (by assumption) ?_
          try simp only [Act.put, List.getElem_toArray, List.getElem_cons_succ, List.getElem_cons_zero, List.setIfInBounds_toArray, List.set_cons_zero, List.set_cons_succ]
          refine wpAnyH_take (i := 11) (v := undef) rfl (by kernel_rfl) (by kernel_rfl) (by kernel_rfl) (fun _ _ _ h => h) (Or.inr ⟨by kernel_rfl, rfl⟩) (by assumption) ?_
          try simp only [Act.put, List.getElem_toArray, List.getElem_cons_succ, List.getElem_cons_zero, List.setIfInBounds_toArray, List.set_cons_zero, List.set_cons_succ]
          refine wpAnyH_take (i := 12) (v := ?_) rfl (by kernel_rfl) (by kernel_rfl) (by kernel_rfl) (fun _ _ _ h => h) (Or.inl ⟨by kernel_rfl, ?_⟩) (by assumption) ?_
          rotate_left 1
          · intro w hSw; (try dsimp only at hSw); go_simp; try with_reducible rfl
          try simp only [Act.put, List.getElem_toArray, List.getElem_cons_succ, List.getElem_cons_zero, List.setIfInBounds_toArray, List.set_cons_zero, List.set_cons_succ]
          refine wpAnyH_ready (rs := [13]) (by kernel_rfl) (by simp) ?_
          refine AllReadyH.cons rfl (fun K hK => ?_) AllReadyH.nil
          obtain ⟨v0, v1, v2, hv⟩ := hHeld.2.2
          have hc0 := hv.cellAt 0 (by simp)
          have hc1 := hv.cellAt 1 (by simp)
          have hc2 := hv.cellAt 2 (by simp)
          have hf0 := hv.frozen 0
          have hf1 := hv.frozen 1
          have hf2 := hv.frozen 2
          (try simp only [World.cell?_drew, World.frozen?_drew] at hc0 hc1 hc2 hf0 hf1 hf2)
          go_simp
          refine hK.out _ _ ?_ (fun hNew => ?_)
          · exact ⟨((hHeld.1.setCell (Nat.le_refl _) _).setCell (Nat.le_refl _) _).setCell (Nat.le_refl _) _, ((hHeld.2.1.far hne _).far hne _).far hne _, by obtain ⟨v0, v1, v2, hv⟩ := hHeld.2.2; exact ⟨_, _, _, ((hv.set_ 0 _).set_ 1 _).set_ 2 _⟩⟩
          clear hK K hHeld
          have hHeld := hNew
          clear hNew
          try simp only [Act.put, List.getElem_toArray, List.getElem_cons_succ, List.getElem_cons_zero, List.setIfInBounds_toArray, List.set_cons_zero, List.set_cons_succ]
          refine wpAnyH_take (i := 14) (v := ?_) rfl (by kernel_rfl) (by kernel_rfl) (by kernel_rfl) (fun _ _ _ h => h) (Or.inl ⟨by kernel_rfl, ?_⟩) (by assumption) ?_
          rotate_left 1
          · intro w hSw; (try dsimp only at hSw); go_simp; try with_reducible rfl
          try simp only [Act.put, List.getElem_toArray, List.getElem_cons_succ, List.getElem_cons_zero, List.setIfInBounds_toArray, List.set_cons_zero, List.set_cons_succ]
          refine wpAnyH_take (i := 15) (v := ?_) rfl (by kernel_rfl) (by kernel_rfl) (by kernel_rfl) (fun _ _ _ h => h) (Or.inl ⟨by kernel_rfl, ?_⟩) (by assumption) ?_
          rotate_left 1
          · intro w hSw; (try dsimp only at hSw); go_simp; try with_reducible rfl
          try simp only [Act.put, List.getElem_toArray, List.getElem_cons_succ, List.getElem_cons_zero, List.setIfInBounds_toArray, List.set_cons_zero, List.set_cons_succ]
          refine wpAnyH_done (by kernel_rfl) ?_ _
          go_wp2
          exact bodyPost_ret (v := .tuple #[.agg #[.int .i64 n1, .string b, .int .i64 n3], .int .i64 n4, .bool false]) (by simp [results, Tryz.results237, go_sem, hc0, hc1, hc2]) rfl ⟨⟨n1, b, n3⟩, n4, false, rfl, (fun h => by cases h), (fun _ => HO.out), hHeld.1⟩
        · have r4 : (readN d.data.toList).2 = true := by rw [readN_yes d4]
          have HO := Lib.hid (show okEn ⟨numS a.data.toList, b, numS c.data.toList⟩ = true → lineF s = some (⟨numS a.data.toList, b, numS c.data.toList⟩, numS d.data.toList) from fun h => by rw [lineF_four he]; exact wordsF_yes d1 d3 d4 h)
          have HP := Lib.hid (show okEn ⟨numS a.data.toList, b, numS c.data.toList⟩ = false → lineF s = none from fun h => by rw [lineF_four he]; exact wordsF_no4 h)
          have E1 := Lib.hid (readN_fst d1)
          have E3 := Lib.hid (readN_fst d3)
          have E4 := Lib.hid (readN_fst d4)
          go_enter Tryz.func237, Tryz.ntmps237
          go_wp2_with fail
          refine (strSplit_any s 32 m _ hs hw0).mono ?_
          rintro e w1 ⟨A, n, k, rfl, s1, b1⟩
          have y1 := y0.on b1
          have HB1 := Lib.hid (bnext b0 b1 (Nat.le_refl _))
          clear b1 b0 hw0 hm
          rw [he] at s1
          obtain ⟨rfl, g, rfl, c0, c1, c2, c3⟩ := sl_strs4 s1
          clear s1
          go_wp2_with fail
          refine (readDecimal_any a _ (by omega) (tabUp HT.out HB1.out) (synUp HV.out HB1.out)).mono ?_
          rintro e w2 ⟨rfl, b2⟩
          replace c1 := cell_on b2 c1
          replace c2 := cell_on b2 c2
          replace c3 := cell_on b2 c3
          have y2 := y1.on b2
          have HB2 := Lib.hid (bnext HB1.out b2 (Nat.le_refl _))
          clear b2 c0 y1
          go_wp2_with fail
          refine (readDecimal_any c _ (by omega) (tabUp HT.out HB2.out) (synUp HV.out HB2.out)).mono ?_
          rintro e w3 ⟨rfl, b3⟩
          replace c1 := cell_on b3 c1
          replace c3 := cell_on b3 c3
          have y3 := y2.on b3
          have HB3 := Lib.hid (bnext HB2.out b3 (Nat.le_refl _))
          clear b3 c2 y2
          go_wp2_with fail
          refine (readDecimal_any d _ (by omega) (tabUp HT.out HB3.out) (synUp HV.out HB3.out)).mono ?_
          rintro e w4 ⟨rfl, b4⟩
          replace c1 := cell_on b4 c1
          have y4 := y3.on b4
          have HB4 := Lib.hid (bnext HB3.out b4 (Nat.le_refl _))
          clear b4 c3 y3
          have x1 := readN_bd a.data.toList
          have x3 := readN_bd c.data.toList
          obtain ⟨n1, hn1⟩ : ∃ v, (readN a.data.toList).1 = v := ⟨_, rfl⟩
          obtain ⟨n3, hn3⟩ : ∃ v, (readN c.data.toList).1 = v := ⟨_, rfl⟩
          obtain ⟨n4, hn4⟩ : ∃ v, (readN d.data.toList).1 = v := ⟨_, rfl⟩
          simp only [hn1, hn3, hn4, r1, r3, r4] at x1 x3 ⊢
          have HN1 := Lib.hid hn1
          have HN3 := Lib.hid hn3
          have HN4 := Lib.hid hn4
          clear hn1 hn3 hn4
          replace HO := Lib.hid (show okEn ⟨n1, b, n3⟩ = true → lineF s = some (⟨n1, b, n3⟩, n4) by rw [← HN1.out, ← HN3.out, ← HN4.out, E1.out, E3.out, E4.out]; exact HO.out)
          replace HP := Lib.hid (show okEn ⟨n1, b, n3⟩ = false → lineF s = none by rw [← HN1.out, ← HN3.out, E1.out, E3.out]; exact HP.out)
          have hxg : En.good ⟨n1, b, n3⟩ := ⟨⟨by simp only; omega, by simp only; omega⟩, by simp only; omega, ⟨by simp only; omega, by simp only; omega⟩⟩
          have hxs : En.small ⟨n1, b, n3⟩ := by unfold En.small; simp only; omega
          clear E1 E3 E4
          go_wp2_with fail
          obtain ⟨wq, hwq⟩ : ∃ y, w4.alloc (.cells #[.int .i64 n1, .string b, .int .i64 n3] 253) = y := ⟨_, rfl⟩
          have bq : Below w4.heap.size w4 wq := by rw [← hwq]; exact (Below.refl _ _).alloc (Nat.le_refl _) _
          have yq : Blk wq w4.heap.size 253 #[.int .i64 n1, .string b, .int .i64 n3] := by rw [← hwq]; exact Blk.new _ _ _
          rw [hwq]
          clear hwq
          have yr := y4.on bq
          have HQ := Lib.hid (bnext HB4.out bq (Nat.le_refl _))
          have hne : w4.heap.size ≠ w.heap.size := by have := y4.lt; omega
          clear bq c1 y4
          go_wp2_with fail
          refine wp_region_held_drew (S := (fun W => Below w.heap.size w W ∧ Blk W w4.heap.size 253 #[.int .i64 n1, .string b, .int .i64 n3] ∧ ∃ v0 v1 v2, Blk W w.heap.size 253 #[v0, v1, v2])) (by kernel_rfl) ?_ (fun hHeld => ?_)
          · exact ⟨HQ.out.drew, yq.drew, ⟨_, _, _, yr.drew⟩⟩
          refine wpAnyH_take (i := 0) (v := ?_) rfl (by kernel_rfl) (by kernel_rfl) (by kernel_rfl) (fun _ _ _ h => h) (Or.inl ⟨by kernel_rfl, ?_⟩) (by assumption) ?_
          rotate_left 1
          · intro w hSw; (try dsimp only at hSw); (have e0 := hSw.2.1.cellAt 0 (by simp)); (have e1 := hSw.2.1.cellAt 1 (by simp)); (have e2 := hSw.2.1.cellAt 2 (by simp)); go_simp; try with_reducible rfl
          try simp only [Act.put, List.getElem_toArray, List.getElem_cons_succ, List.getElem_cons_zero, List.setIfInBounds_toArray, List.set_cons_zero, List.set_cons_succ]
          refine wpAnyH_take (i := 1) (v := ?_) rfl (by kernel_rfl) (by kernel_rfl) (by kernel_rfl) (fun _ _ _ h => h) (Or.inl ⟨by kernel_rfl, ?_⟩) (by assumption) ?_
          rotate_left 1
          · intro w hSw; (try dsimp only at hSw); go_simp; try with_reducible rfl
          try simp only [Act.put, List.getElem_toArray, List.getElem_cons_succ, List.getElem_cons_zero, List.setIfInBounds_toArray, List.set_cons_zero, List.set_cons_succ]
          refine wpAnyH_take (i := 2) (v := ?_) rfl (by kernel_rfl) (by kernel_rfl) (by kernel_rfl) (fun _ _ _ h => h) (Or.inl ⟨by kernel_rfl, ?_⟩) (by assumption) ?_
          rotate_left 1
          · intro w hSw; (try dsimp only at hSw); go_simp; try with_reducible rfl
          try simp only [Act.put, List.getElem_toArray, List.getElem_cons_succ, List.getElem_cons_zero, List.setIfInBounds_toArray, List.set_cons_zero, List.set_cons_succ]
          refine wpAnyH_take (i := 3) (v := ?_) rfl (by kernel_rfl) (by kernel_rfl) (by kernel_rfl) (fun _ _ _ h => h) (Or.inl ⟨by kernel_rfl, ?_⟩) (by assumption) ?_
          rotate_left 1
          · intro w hSw; (try dsimp only at hSw); go_simp; try with_reducible rfl
          try simp only [Act.put, List.getElem_toArray, List.getElem_cons_succ, List.getElem_cons_zero, List.setIfInBounds_toArray, List.set_cons_zero, List.set_cons_succ]
          refine wpAnyH_take (i := 4) (v := ?_) rfl (by kernel_rfl) (by kernel_rfl) (by kernel_rfl) (fun _ _ _ h => h) (Or.inl ⟨by kernel_rfl, ?_⟩) (by assumption) ?_
          rotate_left 1
          · intro w hSw; (try dsimp only at hSw); go_simp; try with_reducible rfl
          try simp only [Act.put, List.getElem_toArray, List.getElem_cons_succ, List.getElem_cons_zero, List.setIfInBounds_toArray, List.set_cons_zero, List.set_cons_succ]
          refine wpAnyH_take (i := 5) (v := ?_) rfl (by kernel_rfl) (by kernel_rfl) (by kernel_rfl) (fun _ _ _ h => h) (Or.inl ⟨by kernel_rfl, ?_⟩) (by assumption) ?_
          rotate_left 1
          · intro w hSw; (try dsimp only at hSw); go_simp; try with_reducible rfl
          try simp only [Act.put, List.getElem_toArray, List.getElem_cons_succ, List.getElem_cons_zero, List.setIfInBounds_toArray, List.set_cons_zero, List.set_cons_succ]
          refine wpAnyH_take (i := 6) (v := ?_) rfl (by kernel_rfl) (by kernel_rfl) (by kernel_rfl) (fun _ _ _ h => h) (Or.inl ⟨by kernel_rfl, ?_⟩) (by assumption) ?_
          rotate_left 1
          · intro w hSw; (try dsimp only at hSw); go_simp; try with_reducible rfl
          try simp only [Act.put, List.getElem_toArray, List.getElem_cons_succ, List.getElem_cons_zero, List.setIfInBounds_toArray, List.set_cons_zero, List.set_cons_succ]
          refine wpAnyH_take (i := 7) (v := ?_) rfl (by kernel_rfl) (by kernel_rfl) (by kernel_rfl) (fun _ _ _ h => h) (Or.inl ⟨by kernel_rfl, ?_⟩) (by assumption) ?_
          rotate_left 1
          · intro w hSw; (try dsimp only at hSw); go_simp; try with_reducible rfl
          try simp only [Act.put, List.getElem_toArray, List.getElem_cons_succ, List.getElem_cons_zero, List.setIfInBounds_toArray, List.set_cons_zero, List.set_cons_succ]
          refine wpAnyH_take (i := 8) (v := ?_) rfl (by kernel_rfl) (by kernel_rfl) (by kernel_rfl) (fun _ _ _ h => h) (Or.inl ⟨by kernel_rfl, ?_⟩) (by assumption) ?_
          rotate_left 1
          · intro w hSw; (try dsimp only at hSw); go_simp; try with_reducible rfl
          try simp only [Act.put, List.getElem_toArray, List.getElem_cons_succ, List.getElem_cons_zero, List.setIfInBounds_toArray, List.set_cons_zero, List.set_cons_succ]
          refine wpAnyH_take (i := 9) (v := ?_) rfl (by kernel_rfl) (by kernel_rfl) (by kernel_rfl) (fun _ _ _ h => h) (Or.inl ⟨by kernel_rfl, ?_⟩) (by assumption) ?_
          rotate_left 1
          · intro w hSw; (try dsimp only at hSw); go_simp; try with_reducible rfl
          try simp only [Act.put, List.getElem_toArray, List.getElem_cons_succ, List.getElem_cons_zero, List.setIfInBounds_toArray, List.set_cons_zero, List.set_cons_succ]
          refine wpAnyH_take (i := 10) (v := ?_) rfl (by kernel_rfl) (by kernel_rfl) (by kernel_rfl) (fun _ _ _ h => h) (Or.inl ⟨by kernel_rfl, ?_⟩) (by assumption) ?_
          rotate_left 1
          · intro w hSw; (try dsimp only at hSw); (have e0 := hSw.2.1.cellAt 0 (by simp)); (have e1 := hSw.2.1.cellAt 1 (by simp)); (have e2 := hSw.2.1.cellAt 2 (by simp)); go_simp; try with_reducible rfl
          try simp only [Act.put, List.getElem_toArray, List.getElem_cons_succ, List.getElem_cons_zero, List.setIfInBounds_toArray, List.set_cons_zero, List.set_cons_succ]
          refine wpAnyH_ready (rs := [11]) (by kernel_rfl) (by simp) ?_
          refine AllReadyH.cons rfl (fun K hK => ?_) AllReadyH.nil
          go_simp
          go_at_call 263
          refine (implValidEntry_any ⟨n1, b, n3⟩ _ hxg hxs).mono ?_
          rintro e w5 ⟨rfl, b5⟩
          go_wp2_with fail
          refine hK.out _ _ ?_ (fun hNew => ?_)
          · exact ⟨bnext hHeld.1 b5 (Nat.le_refl _), hHeld.2.1.on b5, by obtain ⟨v0, v1, v2, hv⟩ := hHeld.2.2; exact ⟨v0, v1, v2, hv.on b5⟩⟩
          clear hK K hHeld
          have hHeld := hNew
          clear hNew
          try simp only [Act.put, List.getElem_toArray, List.getElem_cons_succ, List.getElem_cons_zero, List.setIfInBounds_toArray, List.set_cons_zero, List.set_cons_succ]
          refine wpAnyH_take (i := 12) (v := ?_) rfl (by kernel_rfl) (by kernel_rfl) (by kernel_rfl) (fun _ _ _ h => h) (Or.inl ⟨by kernel_rfl, ?_⟩) (by assumption) ?_
          rotate_left 1
          · intro w hSw; (try dsimp only at hSw); go_simp; try with_reducible rfl
          try simp only [Act.put, List.getElem_toArray, List.getElem_cons_succ, List.getElem_cons_zero, List.setIfInBounds_toArray, List.set_cons_zero, List.set_cons_succ]
          refine wpAnyH_ready (rs := [13]) (by kernel_rfl) (by simp) ?_
          refine AllReadyH.cons rfl (fun K hK => ?_) AllReadyH.nil
          obtain ⟨v0, v1, v2, hv⟩ := hHeld.2.2
          have hc0 := hv.cellAt 0 (by simp)
          have hc1 := hv.cellAt 1 (by simp)
          have hc2 := hv.cellAt 2 (by simp)
          have hf0 := hv.frozen 0
          have hf1 := hv.frozen 1
          have hf2 := hv.frozen 2
          (try simp only [World.cell?_drew, World.frozen?_drew] at hc0 hc1 hc2 hf0 hf1 hf2)
          go_simp
          refine hK.out _ _ ?_ (fun hNew => ?_)
          · exact ⟨((hHeld.1.setCell (Nat.le_refl _) _).setCell (Nat.le_refl _) _).setCell (Nat.le_refl _) _, ((hHeld.2.1.far hne _).far hne _).far hne _, by obtain ⟨v0, v1, v2, hv⟩ := hHeld.2.2; exact ⟨_, _, _, ((hv.set_ 0 _).set_ 1 _).set_ 2 _⟩⟩
          clear hK K hHeld
          have hHeld := hNew
          clear hNew
          try simp only [Act.put, List.getElem_toArray, List.getElem_cons_succ, List.getElem_cons_zero, List.setIfInBounds_toArray, List.set_cons_zero, List.set_cons_succ]
          refine wpAnyH_take (i := 14) (v := ?_) rfl (by kernel_rfl) (by kernel_rfl) (by kernel_rfl) (fun _ _ _ h => h) (Or.inl ⟨by kernel_rfl, ?_⟩) (by assumption) ?_
          rotate_left 1
          · intro w hSw; (try dsimp only at hSw); go_simp; try with_reducible rfl
          try simp only [Act.put, List.getElem_toArray, List.getElem_cons_succ, List.getElem_cons_zero, List.setIfInBounds_toArray, List.set_cons_zero, List.set_cons_succ]
          refine wpAnyH_take (i := 15) (v := ?_) rfl (by kernel_rfl) (by kernel_rfl) (by kernel_rfl) (fun _ _ _ h => h) (Or.inl ⟨by kernel_rfl, ?_⟩) (by assumption) ?_
          rotate_left 1
          · intro w hSw; (try dsimp only at hSw); go_simp; try with_reducible rfl
          try simp only [Act.put, List.getElem_toArray, List.getElem_cons_succ, List.getElem_cons_zero, List.setIfInBounds_toArray, List.set_cons_zero, List.set_cons_succ]
          refine wpAnyH_done (by kernel_rfl) ?_ _
          go_wp2
          exact bodyPost_ret (v := .tuple #[.agg #[.int .i64 n1, .string b, .int .i64 n3], .int .i64 n4, .bool (okEn ⟨n1, b, n3⟩)]) (by simp [results, Tryz.results237, go_sem, hc0, hc1, hc2]) rfl ⟨⟨n1, b, n3⟩, n4, (okEn ⟨n1, b, n3⟩), rfl, HO.out, HP.out, hHeld.1⟩
  · have HO := Lib.hid (lineF_other h4)
    go_enter Tryz.func237, Tryz.ntmps237
    go_wp2_with fail
    refine (strSplit_any s 32 m _ hs hw0).mono ?_
    rintro e w1 ⟨A, n, k, rfl, s1, b1⟩
    have y1 := y0.on b1
    have HB1 := Lib.hid (bnext b0 b1 (Nat.le_refl _))
    clear b1 b0 hw0 hm
    have hn := s1.len
    simp only [strs, List.length_map, Nat.mul_one] at hn
    have hn4 : ((n : Int) != 4) = true := by rw [bne_iff_ne]; omega
    have hc0 := y1.cellAt 0 (by simp)
    have hc1 := y1.cellAt 1 (by simp)
    have hc2 := y1.cellAt 2 (by simp)
    have hf0 := y1.frozen 0
    have hf1 := y1.frozen 1
    have hf2 := y1.frozen 2
    clear s1 y1
    go_wp2
    exact bodyPost_ret (v := .tuple #[.agg #[.int .i64 0, .string ⟨#[]⟩, .int .i64 0], .int .i64 0, .bool false]) (by simp [results, Tryz.results237, go_sem, hc0, hc1, hc2]) rfl ⟨⟨0, ⟨#[]⟩, 0⟩, 0, false, rfl, (fun h => by cases h), (fun _ => HO.out), ((HB1.out.setCell (Nat.le_refl _) _).setCell (Nat.le_refl _) _).setCell (Nat.le_refl _) _⟩
    
end Go.Proofs.YtjmlcobbjpmjpaaGreatDoor
namespace Go.Proofs.YtjmlcobbjpmjpaaGreatDoor
open Go.RowKit Go.Lib

theorem cut_hit {c : UInt8} {a r : List UInt8} (h : c ∉ a) : Lib.cut (a ++ c :: r) [c] = (a, r, true) := by
  rcases index_one c (a ++ c :: r) with ⟨_, hn⟩ | ⟨a2, r2, he, hn2, hi⟩
  · exact absurd (by simp) hn
  · have hs1 := splitL_hit (r := r) h
    have hs2 := splitL_hit (r := r2) hn2
    rw [he, hs2] at hs1
    injection hs1 with h1 h2
    subst h1
    have h3 : r2 = r := by
      have := List.append_cancel_left he
      injection this with _ h4
      exact h4.symm
    subst h3
    simp [Lib.cut, hi]
theorem cut_miss {c : UInt8} {l : List UInt8} (h : c ∉ l) : Lib.cut l [c] = (l, [], false) := by
  rcases index_one c l with ⟨hi, _⟩ | ⟨a2, r2, he, _, _⟩
  · simp [Lib.cut, hi]
  · exact absurd (by rw [he]; simp) h
theorem strCut_hit (s a : ByteArray) (c : UInt8) (r : List UInt8) (m : Int) (w : World) (hs : s.size ≤ 1048576) (hm : w.cell? ⟨0, 0, none⟩ = some (.int .i64 m)) (he : s.data.toList = a.data.toList ++ c :: r) (hn : c ∉ a.data.toList) :
    Calls Tryz.prog 105 #[.string s, .string ⟨#[c]⟩] w fun e w' => e = .returned (.tuple #[.string a, .string (asBytes r), .bool true]) ∧ Below w.heap.size w w' := by
  refine (Tryz.strings_Cut s ⟨#[c]⟩ m w (by omega) hm).mono ?_
  rintro e w' ⟨rfl, n, rfl⟩
  rw [he, show (⟨#[c]⟩ : ByteArray).data.toList = [c] from rfl, cut_hit hn]
  exact ⟨rfl, below_drewN (Below.refl _ _) n⟩
theorem strCut_miss (s : ByteArray) (c : UInt8) (m : Int) (w : World) (hs : s.size ≤ 1048576) (hm : w.cell? ⟨0, 0, none⟩ = some (.int .i64 m)) (hn : c ∉ s.data.toList) :
    Calls Tryz.prog 105 #[.string s, .string ⟨#[c]⟩] w fun e w' => e = .returned (.tuple #[.string s, .string ⟨#[]⟩, .bool false]) ∧ Below w.heap.size w w' := by
  refine (Tryz.strings_Cut s ⟨#[c]⟩ m w (by omega) hm).mono ?_
  rintro e w' ⟨rfl, n, rfl⟩
  rw [show (⟨#[c]⟩ : ByteArray).data.toList = [c] from rfl, cut_miss hn]
  exact ⟨rfl, below_drewN (Below.refl _ _) n⟩
end Go.Proofs.YtjmlcobbjpmjpaaGreatDoor
