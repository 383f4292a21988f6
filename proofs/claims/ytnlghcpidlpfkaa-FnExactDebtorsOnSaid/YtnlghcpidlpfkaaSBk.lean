/- Booking values: their cells, lists of them, the law's copies, sizes, comparisons and marks. -/
import Derived.Test.YtnlghcpidlpfkaaProg
import Derived.Test.YtnlghcpidlpfkaaMem
import Derived.Test.YtnlghcpidlpfkaaOpen
import Derived.Test.YtnlghcpidlpfkaaMark
import Derived.Deep.RegionHeld3
import Derived.BigQuiet
set_option linter.unusedVariables false
namespace Go.Proofs.Ytnlghcpidlpfkaa
open Go.RowKit Go.ChangeShapes Go.WideShapes Go.Deep

structure Bk where
  day : Int
  client : ByteArray
  amount : Int

def Bk.good (x : Bk) : Prop := I64 x.day ∧ x.client.size ≤ 9223372036854775807 ∧ I64 x.amount
def Bk.small (x : Bk) : Prop := x.client.size ≤ 1048576
def cellsBk (x : Bk) : List Value := [.int .i64 x.day, .string x.client, .int .i64 x.amount]
def bkv (x : Bk) : Value := .agg #[.int .i64 x.day, .string x.client, .int .i64 x.amount]
def bks (l : List Bk) : List Value := l.flatMap cellsBk
theorem bks_length (l : List Bk) : (bks l).length = l.length * 3 := flat_length cellsBk 3 (fun _ => rfl) l
theorem bks_get {l : List Bk} {k : Nat} {x : Bk} (h : l[k]? = some x) : (bks l)[k * 3]? = some (.int .i64 x.day) ∧ (bks l)[k * 3 + 1]? = some (.string x.client) ∧ (bks l)[k * 3 + 2]? = some (.int .i64 x.amount) :=
  ⟨flat_get cellsBk 3 (fun _ => rfl) l k x h 0 (by omega), flat_get cellsBk 3 (fun _ => rfl) l k x h 1 (by omega), flat_get cellsBk 3 (fun _ => rfl) l k x h 2 (by omega)⟩
theorem bks_len {w : World} {B n : Nat} {A : Option Addr} {l : List Bk} (h : Reads w B 3 A n (bks l)) : l.length = n := by
  have := h.1
  rw [bks_length] at this
  omega
theorem bk_at {w : World} {B n k : Nat} {A : Option Addr} {l : List Bk} (h : Reads w B 3 A n (bks l)) (hk : k < n) :
    ∃ (x : Bk) (b off : Nat), l[k]? = some x ∧ A = some ⟨b, off, none⟩ ∧ b < B ∧ w.cell? ⟨b, off + k * 3, none⟩ = some (.int .i64 x.day) ∧ w.cell? ⟨b, off + k * 3 + 1, none⟩ = some (.string x.client) ∧ w.cell? ⟨b, off + k * 3 + 2, none⟩ = some (.int .i64 x.amount) := by
  obtain ⟨b, off, rfl, hb, hcell⟩ := h.at_ (by omega)
  have hl := bks_len h
  have he : l[k]? = some l[k] := List.getElem?_eq_getElem (by omega)
  obtain ⟨e0, e1, e2⟩ := bks_get he
  exact ⟨_, b, off, he, rfl, hb, hcell _ _ e0, hcell _ _ e1, hcell _ _ e2⟩

section
variable {H : Type} {enc : TypeId × Value → H} {w : World}
theorem read_bk {n : Nat} {cs : List Value} {y : DataW H × List MemPlace} {base : Nat} {spare : Nat → Bool} {held : Bool} (hl : cs.length = 3)
    (h : DataW.trod enc Try.prog w base spare held n 38 cs = some y) : ∃ x : Bk, cellsBk x = cs ∧ x.good := by
  obtain ⟨n', hfs⟩ := trod_fields Try.underlying38 (by kernel_rfl) hl h
  obtain ⟨v0, z0, e0, t0⟩ := hfs 0 _ rfl
  obtain ⟨v1, z1, e1, t1⟩ := hfs 1 _ rfl
  obtain ⟨v2, z2, e2, t2⟩ := hfs 2 _ rfl
  obtain ⟨x0, rfl, g0⟩ := field_int Try.underlying2 t0
  obtain ⟨x1, rfl, g1⟩ := field_string Try.underlying9 t1
  obtain ⟨x2, rfl, g2⟩ := field_int Try.underlying2 t2
  exact ⟨⟨x0, x1, x2⟩, (list3 hl e0 e1 e2).symm, I64_of_wf g0, by unfold maxLen at g1; exact g1, I64_of_wf g2⟩
theorem open_bks {d : DataW H} {p : List MemPlace} {A : Option Addr} {len cap : Nat} (h : DataW.Trod enc Try.prog w 0 (fun _ => true) true 36 (.slice A len cap) d p) :
    ∃ l : List Bk, (∀ x ∈ l, x.good) ∧ len ≤ 9223372036854775807 ∧ Reads w w.heap.size 3 A len (bks l) := by
  obtain ⟨fuel, hf⟩ := h
  obtain ⟨A', len', cap', l, hcs, hn, hr, hgd⟩ := open_list cellsBk 3 Bk.good (fun _ => rfl) Try.underlying36 (by kernel_rfl) (by omega) (fun n cs' y hl ht => by
    exact read_bk hl ht) hf
  simp [Value.cells] at hcs
  obtain ⟨rfl, rfl, rfl⟩ := hcs
  exact ⟨l, hgd, hn, hr⟩
set_option maxRecDepth 100000 in
theorem open_bk {r : Reach} {b0 : Nat} {d : DataW H} {p : List MemPlace} {v : Value} (hv : Value.okWide Try.prog w r b0 38 v) (h : DataW.Trod enc Try.prog w 0 (fun _ => true) true 38 v d p) :
    ∃ x : Bk, v = bkv x ∧ x.good := by
  obtain ⟨cs, rfl, hsz⟩ := okWide_struct Try.underlying38 hv
  obtain ⟨fuel, hf⟩ := h
  have hC : Try.prog.cellsOf 38 = 3 := by kernel_rfl
  have hl : (Value.agg cs).cells.toList.length = 3 := by show cs.toList.length = 3; rw [Array.length_toList]; exact hsz.trans hC
  obtain ⟨x, hx, hg⟩ := read_bk hl hf
  refine ⟨x, ?_, hg⟩
  have : cs = (cellsBk x).toArray := by rw [hx]; simp [Value.cells]
  rw [this]
  rfl
end

theorem szBooking_any (x : Bk) (q : Int) (w : World) (hq0 : 0 ≤ q) (hq : q ≤ 1048576) (hx : x.good) :
    Calls Try.prog 22 #[.agg #[.int .i64 x.day, .string x.client, .int .i64 x.amount], .int .i64 q] w fun e w' => ∃ r : Int, e = .returned (.int .i64 r) ∧ Below w.heap.size w w' ∧ (r < 0 ∨ (0 ≤ r ∧ r ≤ q ∧ True ∧ x.small)) := by
  have hz := hx.2.1
  by_cases h : (x.client.size : Int) ≤ q
  · go_enter Try.func22, Try.ntmps22
    go_wp2
    go_ret
    exact ⟨_, rfl, (Below.refl _ _).alloc (Nat.le_refl _) _, .inr ⟨by omega, by omega, trivial, by unfold Bk.small; omega⟩⟩
  · go_enter Try.func22, Try.ntmps22
    go_wp2
    go_ret
    exact ⟨_, rfl, (Below.refl _ _).alloc (Nat.le_refl _) _, .inl (by omega)⟩

theorem szBookingS_any (A : Option Addr) (n c : Nat) (l : List Bk) (q : Int) (B : Nat) (w : World) (h : Reads w B 3 A n (bks l)) (hq0 : 0 ≤ q) (hq : q ≤ 1048576) (hn : n ≤ 9223372036854775807) (hB : B ≤ w.heap.size) (hgood : ∀ x ∈ l, x.good) :
    Calls Try.prog 21 #[.slice A n c, .int .i64 q] w fun e w' => ∃ r : Int, e = .returned (.int .i64 r) ∧ Below w.heap.size w w' ∧ (r < 0 ∨ (0 ≤ r ∧ r ≤ q ∧ (n : Int) ≤ q ∧ ∀ x ∈ l, x.small)) := by
  have HG := Lib.hid hgood
  have HL := Lib.hid (bks_len h)
  clear hgood
  by_cases hnq : (n : Int) ≤ q
  · go_enter Try.func21, Try.ntmps21
    go_wp2
    go_loopw [1, 5] (fun s i wr => ∃ (k : Nat) (r : Int), k ≤ n ∧ i = .int .i64 k ∧ s = .int .i64 r ∧ 0 ≤ r ∧ r ≤ q ∧ (∀ (j : Nat) (x : Bk), j < k → l[j]? = some x → x.small) ∧ Below w.heap.size w wr) (fun _ i _ => n - (intOf i).toNat)
    case atStart => exact ⟨0, _, Nat.zero_le _, rfl, rfl, by omega, by omega, fun j x hj _ => by omega, Below.refl _ _⟩
    case round =>
      obtain ⟨k, r, hk, rfl, rfl, hr0, hr1, hall, hbel⟩ := hrel
      have HA := Lib.hid hall
      have HB := Lib.hid hbel
      clear hall
      by_cases hlt : k < n
      · obtain ⟨x, b, off, he, rfl, hb, c0, c1, c2⟩ := bk_at (h.on hB hbel) hlt
        have HX := Lib.hid (HG.out x (List.mem_of_getElem? he))
        have HE := Lib.hid he
        clear he hbel h
        go_wp2_with fail
        refine (szBooking_any x _ _ (by omega) (by omega) HX.out).mono ?_
        rintro e w1 ⟨r1, rfl, b1, hr⟩
        have HB1 := Lib.hid (bnext HB.out b1 (Nat.le_refl _))
        clear b1 c0 c1 c2
        rcases hr with hr | ⟨hr2, hr3, _, hsm⟩
        · go_wp2
          go_ret
          exact ⟨_, rfl, HB1.out, .inl (by omega)⟩
        · have HS := Lib.hid hsm
          clear hsm
          go_wp2
          go_roundw
          case rel =>
            refine ⟨k + 1, _, by omega, by go_num, rfl, by omega, by omega, fun j y hj hy => ?_, HB1.out⟩
            by_cases e : j = k
            · subst e; have := HE.out; rw [this] at hy; injection hy with hy; subst hy; exact HS.out
            · exact HA.out j y (by omega) hy
          case measure => simp [intOf]; omega
      · obtain rfl : k = n := by omega
        go_wp2
        go_ret
        refine ⟨_, rfl, HB.out, .inr ⟨hr0, hr1, hnq, fun x hx => ?_⟩⟩
        obtain ⟨j, hj, rfl⟩ := List.mem_iff_getElem.1 hx
        exact HA.out j _ (by have := HL.out; omega) (List.getElem?_eq_getElem hj)
  · go_enter Try.func21, Try.ntmps21
    go_wp2
    go_ret
    exact ⟨_, rfl, Below.refl _ _, .inl (by omega)⟩

theorem toBooking_any (x : Bk) (w : World) : Calls Try.prog 25 #[.agg #[.int .i64 x.day, .string x.client, .int .i64 x.amount]] w fun e w' => e = .returned (.agg #[.int .i64 x.day, .string x.client, .int .i64 x.amount]) ∧ Below w.heap.size w w' := by
  go_enter Try.func25, Try.ntmps25
  go_wp2
  exact bodyPost_ret (v := .agg #[.int .i64 x.day, .string x.client, .int .i64 x.amount]) (by simp [results, Try.results25, go_sem]) rfl ⟨rfl, ((((Below.refl _ _).alloc (Nat.le_refl _) _).alloc (by simp) _).alloc (by simp; omega) _)⟩
theorem make_bk (n : Nat) (hn : n ≤ 1048576) : ∀ w : World, (Instr.makeSlice 41 (.int .i64 (n : Int)) (.int .i64 (n : Int))).run Try.prog w = .ok (.slice (some ⟨w.heap.size, 0, none⟩) n n) (w.alloc (.cells (madeCells #[.int .i64 0, .string ⟨#[]⟩, .int .i64 0] (n * 3)) 45)) :=
  run_make_small 41 45 (.agg #[.int .i64 0, .string ⟨#[]⟩, .int .i64 0]) 3 32 Try.underlying41 (by kernel_rfl) (by decide) n hn
theorem toBookingS_any (A : Option Addr) (n c B : Nat) (l : List Bk) (w : World) (h : Reads w B 3 A n (bks l)) (hB : B ≤ w.heap.size) (hn : n ≤ 1048576) :
    Calls Try.prog 24 #[.slice A n c] w fun e w' => ∃ g, e = .returned (.slice (some ⟨g, 0, none⟩) n n) ∧ Sl w' w.heap.size w'.heap.size 45 3 (some ⟨g, 0, none⟩) n n (bks l) ∧ Below w.heap.size w w' := by
  have hmk := make_bk n hn
  go_enter Try.func24, Try.ntmps24
  go_wp2
  have hb0 := Blk.new w 45 (madeCells #[.int .i64 0, .string ⟨#[]⟩, .int .i64 0] (n * 3))
  go_loopw [4] (fun i wr => ∃ (k : Nat) (cs : Array Value), k ≤ n ∧ i = .int .i64 k ∧ Blk wr w.heap.size 45 cs ∧ cs.size = n * 3 ∧ Fill cs (bks l) (k * 3) ∧ Below w.heap.size w wr) (fun i _ => n - (intOf i).toNat)
  case atStart => exact ⟨0, _, Nat.zero_le _, rfl, hb0, size_madeCells _ _, Fill.zero _ _, (Below.refl _ _).alloc (Nat.le_refl _) _⟩
  case round =>
    obtain ⟨k, cs, hk, rfl, hblk, hcs, hfill, hbel⟩ := hrel
    clear hmk hb0
    have HF := Lib.hid hfill
    have HC := Lib.hid hcs
    have HBk := Lib.hid hblk
    have hgl := hblk.lt
    clear hfill hcs hblk
    by_cases hlt : k < n
    · obtain ⟨x, b, off, he, rfl, hb, c0, c1, c2⟩ := bk_at (h.on hB hbel) hlt
      have HE := Lib.hid (bks_get he)
      clear he
      go_wp2_with (go_at_call 25; refine (toBooking_any x _).mono ?_; rintro e w1 ⟨rfl, hb1⟩; have HB1 := Lib.hid hb1; have hblk1 := HBk.out.below hb1 hgl; have hs0 := hblk1.cellAt (k * 3) (by have := HC.out; omega); have f0 := hblk1.frozen (k * 3); have hs1 := hblk1.cellAt (k * 3 + 1) (by have := HC.out; omega); have f1 := hblk1.frozen (k * 3 + 1); have hs2 := hblk1.cellAt (k * 3 + 2) (by have := HC.out; omega); have f2 := hblk1.frozen (k * 3 + 2); clear hb1; have HBk1 := Lib.hid hblk1; clear hblk1)
      go_roundw
      case rel =>
        refine ⟨k + 1, _, by omega, by go_num, (((HBk1.out.set_ _ _).set_ _ _).set_ _ _), by simp [HC.out], ?_, ((((bnext hbel HB1.out (Nat.le_refl _)).setCell (Nat.le_refl _) _).setCell (Nat.le_refl _) _).setCell (Nat.le_refl _) _)⟩
        rw [show (k + 1) * 3 = k * 3 + 1 + 1 + 1 from by omega]
        exact (((HF.out.step HE.out.1 (by have := HC.out; omega)).step HE.out.2.1 (by have := HC.out; simp; omega)).step HE.out.2.2 (by have := HC.out; simp; omega))
      case measure => simp [intOf]; omega
    · obtain rfl : k = n := by omega
      go_wp2
      go_ret
      refine ⟨_, rfl, Sl.of_blk ?_ (Nat.le_refl _) hgl h.1 (by unfold maxLen; omega), hbel⟩
      rw [← HF.out.done HC.out h.1]
      exact HBk.out

theorem eqBooking_same (x : Bk) (w : World) : Calls Try.prog 115 #[.agg #[.int .i64 x.day, .string x.client, .int .i64 x.amount], .agg #[.int .i64 x.day, .string x.client, .int .i64 x.amount]] w fun e w' => e = .returned (.bool true) ∧ Below w.heap.size w w' := by
  go_enter Try.func115, Try.ntmps115
  go_wp2
  go_ret
  exact ⟨rfl, ((Below.refl _ _).alloc (Nat.le_refl _) _).alloc (by simp) _⟩
theorem eqBookingS_same (A A' : Option Addr) (n c c' B : Nat) (l : List Bk) (w : World) (h : Reads w B 3 A n (bks l)) (h' : Reads w B 3 A' n (bks l)) (hn : n ≤ 1048576) (hB : B ≤ w.heap.size) :
    Calls Try.prog 27 #[.slice A n c, .slice A' n c'] w fun e w' => e = .returned (.bool true) ∧ Below w.heap.size w w' := by
  go_enter Try.func27, Try.ntmps27
  go_wp2
  go_loopw [5] (fun i wr => ∃ k : Nat, k ≤ n ∧ i = .int .i64 k ∧ Below w.heap.size w wr) (fun i _ => n - (intOf i).toNat)
  case atStart => exact ⟨0, Nat.zero_le _, rfl, Below.refl _ _⟩
  case round =>
    obtain ⟨k, hk, rfl, hbel⟩ := hrel
    by_cases hlt : k < n
    · obtain ⟨x, b, off, he, rfl, hb, c0, c1, c2⟩ := bk_at (h.on hB hbel) hlt
      obtain ⟨x', b', off', he', rfl, hb', d0, d1, d2⟩ := bk_at (h'.on hB hbel) hlt
      obtain rfl : x = x' := by rw [he] at he'; injection he'
      have HB := Lib.hid hbel
      have hlt' : (k : Int) < n := by omega
      have hk0 : (0 : Int) ≤ k := by omega
      have hbw : b < wr.heap.size := by have := hbel.size; omega
      have hbw' : b' < wr.heap.size := by have := hbel.size; omega
      clear he he' hbel h h'
      go_wp2_with fail
      go_region_held3 (fun W => Below wr.heap.size wr W ∧ W.cell? ⟨b, off + k * 3, none⟩ = some (.int .i64 x.day) ∧ W.cell? ⟨b, off + k * 3 + 1, none⟩ = some (.string x.client) ∧ W.cell? ⟨b, off + k * 3 + 2, none⟩ = some (.int .i64 x.amount) ∧ W.cell? ⟨b', off' + k * 3, none⟩ = some (.int .i64 x.day) ∧ W.cell? ⟨b', off' + k * 3 + 1, none⟩ = some (.string x.client) ∧ W.cell? ⟨b', off' + k * 3 + 2, none⟩ = some (.int .i64 x.amount)) (first | exact ⟨(Below.refl _ _).drew, c0, c1, c2, d0, d1, d2⟩ | (go_split_ands; exact ⟨bnext (by assumption) hb1 (Nat.le_refl _), cell_on hb1 (by assumption), cell_on hb1 (by assumption), cell_on hb1 (by assumption), cell_on hb1 (by assumption), cell_on hb1 (by assumption), cell_on hb1 (by assumption)⟩)) (first | (go_at_call 115; refine (eqBooking_same x _).mono ?_; rintro e w1 ⟨rfl, hb1⟩))
      rename_i hS
      have HS := Lib.hid (bnext HB.out hS.1 (Nat.le_refl _))
      clear hS hb1 c0 c1 c2 d0 d1 d2
      go_wp2
      go_roundw
      case rel => exact ⟨k + 1, by omega, by go_num, HS.out⟩
      case measure => simp [intOf]; omega
    · obtain rfl : k = n := by omega
      go_wp2
      go_ret
      exact ⟨rfl, hbel⟩

/-- What the marks from k0 on make of element i. -/
def bkMark (k0 i : Nat) : List Value := [.int .i64 ((k0 : Int) + 3 * (i : Int)), .string (mkText (k0 + 3 * i + 1)), .int .i64 ((k0 : Int) + 3 * (i : Int) + 1 + 1)]
def bkMarks (k0 n : Nat) : List Value := (List.range n).flatMap (bkMark k0)
theorem bkMarks_length (k0 n : Nat) : (bkMarks k0 n).length = n * 3 := by rw [bkMarks, flat_length (bkMark k0) 3 (fun _ => rfl)]; simp
theorem bkMarks_get {k0 n k : Nat} (h : k < n) (j : Nat) (hj : j < 3) : (bkMarks k0 n)[k * 3 + j]? = (bkMark k0 k)[j]? := flat_get (bkMark k0) 3 (fun _ => rfl) (List.range n) k k (by simp [h]) j hj
set_option maxHeartbeats 2000000 in
theorem markBookingSk_any (A : Option Addr) (n c lo hi k0 : Nat) (xs : List Value) (w : World) (h : Sl w lo hi 45 3 A n c xs) (hn : n ≤ 1048576) (hk0 : k0 ≤ 1000000000000) :
    Calls Try.prog 28 #[.slice A n c, .int .i64 k0] w fun e w' => e = .returned (.int .i64 ((k0 : Int) + 3 * (n : Int))) ∧ Sl w' lo hi 45 3 A n c (bkMarks k0 n) ∧ Only lo hi w w' := by
  go_enter Try.func28, Try.ntmps28
  go_wp2
  go_loopw [1, 5] (fun q i wr => ∃ (k : Nat) (ys : List Value), k ≤ n ∧ i = .int .i64 k ∧ q = .int .i64 ((k0 : Int) + 3 * (k : Int)) ∧ Sl wr lo hi 45 3 A n c ys ∧ FillL ys (bkMarks k0 n) (k * 3) ∧ Only lo hi w wr) (fun _ i _ => n - (intOf i).toNat)
  case atStart => exact ⟨0, xs, Nat.zero_le _, rfl, by simp, h, FillL.zero _ _, Only.refl _ _ _⟩
  case round =>
    obtain ⟨k, ys, hk, rfl, rfl, hsl, hfill, honly⟩ := hrel
    have HS := Lib.hid hsl
    have HF := Lib.hid hfill
    have HO := Lib.hid honly
    have hlen := hsl.len
    have HN := Lib.hid hlen
    have hlen1 : n * 3 ≤ ys.length := by omega
    clear hsl hfill honly h hlen
    by_cases hlt : k < n
    · obtain ⟨g, rfl, hg1, hg2, hg3⟩ := HS.out.lt (by omega)
      have HM0 := Lib.hid (show (bkMarks k0 n)[k * 3]? = some (.int .i64 ((k0 : Int) + 3 * (k : Int))) from (bkMarks_get hlt 0 (by omega)).trans (by simp [bkMark]))
      have HM1 := Lib.hid (show (bkMarks k0 n)[k * 3 + 1]? = some (.string (mkText (k0 + 3 * k + 1))) from (bkMarks_get hlt 1 (by omega)).trans (by simp [bkMark]))
      have HM2 := Lib.hid (show (bkMarks k0 n)[k * 3 + 2]? = some (.int .i64 ((k0 : Int) + 3 * (k : Int) + 1 + 1)) from (bkMarks_get hlt 2 (by omega)).trans (by simp [bkMark]))
      obtain ⟨u0, hu0⟩ := list_at (ys := ys) (j := k * 3) (by omega)
      have hc0 := (HS.out.cellAt (k * 3) (by omega)).trans hu0
      clear hu0
      have hf0 := HS.out.frozenAt (k * 3)
      go_wp2_with fail
      rw [show ((k0 : Int) + 3 * (k : Int) + 1) = ((k0 + 3 * k + 1 : Nat) : Int) from by omega]
      refine (markText_any _ _ (by omega)).mono ?_
      rintro e w1 ⟨rfl, b1⟩
      obtain ⟨ys1, hs1, hl1⟩ : ∃ z, Sl w1 lo hi 45 3 (some ⟨g, 0, none⟩) n c z ∧ FillL z (bkMarks k0 n) (k * 3 + 1) := ⟨_, (HS.out.set_ (k * 3) (.int .i64 ((k0 : Int) + 3 * (k : Int)))).on b1, (HF.out.step HM0.out (by omega))⟩
      have HO1 := Lib.hid ((HO.out.setCell (p := ⟨g, k * 3, none⟩) hg1 hg2 (.int .i64 ((k0 : Int) + 3 * (k : Int)))).trans (Only.of_below b1 _ _))
      have HS1 := Lib.hid hs1
      have HF1 := Lib.hid hl1
      have hlen2 : n * 3 ≤ ys1.length := by have := hs1.len; omega
      clear b1 hs1 hl1 hc0 hf0
      obtain ⟨u1, hu1⟩ := list_at (ys := ys1) (j := k * 3 + 1) (by omega)
      have hc1 := (HS1.out.cellAt (k * 3 + 1) (by omega)).trans hu1
      clear hu1
      have hf1 := HS1.out.frozenAt (k * 3 + 1)
      obtain ⟨u2, hu2⟩ := list_at (ys := (ys1.set (k * 3 + 1) (.string (mkText (k0 + 3 * k + 1))))) (j := k * 3 + 2) (by simp; omega)
      have hc2 := ((HS1.out.set_ (k * 3 + 1) (.string (mkText (k0 + 3 * k + 1)))).cellAt (k * 3 + 2) (by omega)).trans hu2
      clear hu2
      have hf2 := (HS1.out.set_ (k * 3 + 1) (.string (mkText (k0 + 3 * k + 1)))).frozenAt (k * 3 + 2)
      go_wp2
      go_roundw
      case rel =>
        refine ⟨k + 1, _, by omega, by go_num, ?_, ((HS1.out.set_ (k * 3 + 1) (.string (mkText (k0 + 3 * k + 1)))).set_ (k * 3 + 2) (.int .i64 ((k0 : Int) + 3 * (k : Int) + 1 + 1))), ?_, ((HO1.out.setCell (p := ⟨g, k * 3 + 1, none⟩) hg1 hg2 (.string (mkText (k0 + 3 * k + 1)))).setCell (p := ⟨g, k * 3 + 2, none⟩) hg1 hg2 (.int .i64 ((k0 : Int) + 3 * (k : Int) + 1 + 1)))⟩
        · simp; omega
        · rw [show (k + 1) * 3 = k * 3 + 1 + 1 + 1 from by omega]
          exact ((HF1.out.step HM1.out (by omega)).step HM2.out (by simp; omega))
      case measure => simp [intOf]; omega
    · obtain rfl : k = n := by omega
      go_wp2
      go_ret
      refine ⟨rfl, ?_, HO.out⟩
      rw [← HF.out.done HN.out (bkMarks_length k0 k)]
      exact HS.out

theorem markBookingS_any (A : Option Addr) (n c lo hi : Nat) (k0 : Int) (xs : List Value) (w : World) (h : Sl w lo hi 45 3 A n c xs) (hn : n ≤ 1048576) (hk0 : 0 ≤ k0) (hk1 : k0 ≤ 1000000000000) :
    Calls Try.prog 28 #[.slice A n c, .int .i64 k0] w fun e w' => ∃ q : Int, e = .returned (.int .i64 q) ∧ 0 ≤ q ∧ q ≤ k0 + 10485760 ∧ Only lo hi w w' := by
  obtain ⟨k, rfl⟩ := Int.eq_ofNat_of_zero_le hk0
  exact (markBookingSk_any A n c lo hi k xs w h hn (by omega)).mono fun e w' ⟨h1, _, h3⟩ => ⟨_, h1, by omega, by omega, h3⟩

set_option maxHeartbeats 2000000 in
theorem heldBookingSk_any (A : Option Addr) (n c B k0 : Nat) (w : World) (h : Reads w B 3 A n (bkMarks k0 n)) (hn : n ≤ 1048576) (hk0 : k0 ≤ 1000000000000) (hB : B ≤ w.heap.size) :
    Calls Try.prog 29 #[.slice A n c, .int .i64 k0] w fun e w' => e = .returned (.int .i64 ((k0 : Int) + 3 * (n : Int))) ∧ Below w.heap.size w w' := by
  go_enter Try.func29, Try.ntmps29
  go_wp2
  go_loopw [1, 5] (fun q i wr => ∃ (k : Nat), k ≤ n ∧ i = .int .i64 k ∧ q = .int .i64 ((k0 : Int) + 3 * (k : Int)) ∧ Below w.heap.size w wr) (fun _ i _ => n - (intOf i).toNat)
  case atStart => exact ⟨0, Nat.zero_le _, rfl, by simp, Below.refl _ _⟩
  case round =>
    obtain ⟨k, hk, rfl, rfl, hbel⟩ := hrel
    by_cases hlt : k < n
    · obtain ⟨b, off, rfl, hb, hcell⟩ := (h.on hB hbel).at_ (by omega)
      have c0 : wr.cell? ⟨b, off + k * 3, none⟩ = some (.int .i64 ((k0 : Int) + 3 * (k : Int))) := hcell _ _ ((bkMarks_get hlt 0 (by omega)).trans (by simp [bkMark]))
      have c1 : wr.cell? ⟨b, off + k * 3 + 1, none⟩ = some (.string (mkText (k0 + 3 * k + 1))) := hcell _ _ ((bkMarks_get hlt 1 (by omega)).trans (by simp [bkMark]))
      have c2 : wr.cell? ⟨b, off + k * 3 + 2, none⟩ = some (.int .i64 ((k0 : Int) + 3 * (k : Int) + 1 + 1)) := hcell _ _ ((bkMarks_get hlt 2 (by omega)).trans (by simp [bkMark]))
      have HB := Lib.hid hbel
      have hlt' : (k : Int) < n := by omega
      have hi0 : (0 : Int) ≤ k := by omega
      clear hcell hbel h
      go_wp2_with fail
      have hcall : ∀ W : World, Calls Try.prog 106 #[.int .i64 ((k0 : Int) + 3 * (k : Int) + 1)] W fun e w' => e = .returned (.string (mkText (k0 + 3 * k + 1))) ∧ Below W.heap.size W w' := by
        intro W; rw [show ((k0 : Int) + 3 * (k : Int) + 1) = ((k0 + 3 * k + 1 : Nat) : Int) from by omega]; exact markText_any _ W (by omega)
      have HC1 := Lib.hid hcall
      clear hcall
      go_region_held3 (fun W => Below wr.heap.size wr W ∧ W.cell? ⟨b, off + k * 3, none⟩ = some (.int .i64 ((k0 : Int) + 3 * (k : Int))) ∧ W.cell? ⟨b, off + k * 3 + 1, none⟩ = some (.string (mkText (k0 + 3 * k + 1))) ∧ W.cell? ⟨b, off + k * 3 + 2, none⟩ = some (.int .i64 ((k0 : Int) + 3 * (k : Int) + 1 + 1))) (first | exact ⟨(Below.refl _ _).drew, c0, c1, c2⟩ | (go_split_ands; exact ⟨bnext (by assumption) hb1 (Nat.le_refl _), cell_on hb1 (by assumption), cell_on hb1 (by assumption), cell_on hb1 (by assumption)⟩)) (first | (go_at_call 106; refine (HC1.out _).mono ?_; rintro e w1 ⟨rfl, hb1⟩))
      rename_i hS1
      obtain ⟨hbb1, e1_0, e1_1, e1_2⟩ := hS1
      have HB1 := Lib.hid (bnext HB.out hbb1 (Nat.le_refl _))
      clear hb1 hbb1 c0 c1 c2
      go_wp2
      go_roundw
      case rel => exact ⟨k + 1, by omega, by go_num, by simp; omega, HB1.out⟩
      case measure => simp [intOf]; omega
    · obtain rfl : k = n := by omega
      go_wp2
      go_ret
      exact ⟨rfl, hbel⟩
theorem markBookingSr_any (A : Option Addr) (n c lo hi : Nat) (xs : List Value) (w : World) (h : Sl w lo hi 45 3 A n c xs) (hn : n ≤ 1048576) :
    Calls Try.prog 28 #[.slice A n c, .int .i64 1] w fun e w' => e = .returned (.int .i64 (1 + 3 * (n : Int))) ∧ Sl w' lo hi 45 3 A n c (bkMarks 1 n) ∧ Only lo hi w w' :=
  markBookingSk_any A n c lo hi 1 xs w h hn (by omega)
theorem heldBookingS_any (A : Option Addr) (n c B : Nat) (w : World) (h : Reads w B 3 A n (bkMarks 1 n)) (hn : n ≤ 1048576) (hB : B ≤ w.heap.size) :
    Calls Try.prog 29 #[.slice A n c, .int .i64 1] w fun e w' => e = .returned (.int .i64 (1 + 3 * (n : Int))) ∧ Below w.heap.size w w' :=
  heldBookingSk_any A n c B 1 w h hn (by omega) hB
end Go.Proofs.Ytnlghcpidlpfkaa
