/- Runs: a way of numbers and a start; lists of them as they lie in memory; opened, sized, copied, compared. -/
import Derived.Test.YtgcepomehgedfaaGreatDoorDkI
set_option linter.unusedVariables false
namespace Go.Proofs.YtgcepomehgedfaaGreatDoor
open Go.RowKit Go.ChangeShapes Go.WideShapes Go.Deep

structure Rn where
  way : List Int
  st : Int
/-- The head of a run: where its way lies, and its start. -/
structure RnH where
  A : Option Addr
  m : Nat
  c : Nat
  st : Int
def cellsRn (h : RnH) : List Value := [.slice h.A h.m h.c, .int .i64 h.st]
def rns (l : List RnH) : List Value := l.flatMap cellsRn
theorem rns_length (l : List RnH) : (rns l).length = l.length * 2 := flat_length cellsRn 2 (fun _ => rfl) l
theorem rns_get {l : List RnH} {k : Nat} {x : RnH} (h : l[k]? = some x) : (rns l)[k * 2]? = some (.slice x.A x.m x.c) ∧ (rns l)[k * 2 + 1]? = some (.int .i64 x.st) :=
  ⟨flat_get cellsRn 2 (fun _ => rfl) l k x h 0 (by omega), flat_get cellsRn 2 (fun _ => rfl) l k x h 1 (by omega)⟩
/-- The head says where the run lies. -/
def RunAt (w : World) (B : Nat) (h : RnH) (r : Rn) : Prop := h.st = r.st ∧ h.m ≤ 9223372036854775807 ∧ Reads w B 1 h.A h.m (ints r.way)
def RunsR (w : World) (B : Nat) (A : Option Addr) (n : Nat) (rs : List Rn) : Prop :=
  ∃ hs : List RnH, Reads w B 2 A n (rns hs) ∧ rs.length = n ∧ ∀ (k : Nat) (h : RnH) (r : Rn), hs[k]? = some h → rs[k]? = some r → RunAt w B h r
section
variable {w w' : World} {B B' n k : Nat} {A : Option Addr} {rs : List Rn} {h : RnH} {r : Rn}
theorem RunAt.on (hr : RunAt w B h r) (hB : B ≤ w.heap.size) (hb : Below w.heap.size w w') : RunAt w' B h r := ⟨hr.1, hr.2.1, hr.2.2.on hB hb⟩
theorem RunAt.more (hr : RunAt w B h r) (hB : B ≤ B') : RunAt w B' h r := ⟨hr.1, hr.2.1, hr.2.2.more hB⟩
theorem RunsR.len (hr : RunsR w B A n rs) : rs.length = n := by obtain ⟨hs, _, h2, _⟩ := hr; exact h2
theorem RunsR.on (hr : RunsR w B A n rs) (hB : B ≤ w.heap.size) (hb : Below w.heap.size w w') : RunsR w' B A n rs := by
  obtain ⟨hs, h1, h2, h3⟩ := hr
  exact ⟨hs, h1.on hB hb, h2, fun k h r e1 e2 => (h3 k h r e1 e2).on hB hb⟩
theorem RunsR.more (hr : RunsR w B A n rs) (hB : B ≤ B') : RunsR w B' A n rs := by
  obtain ⟨hs, h1, h2, h3⟩ := hr
  exact ⟨hs, h1.more hB, h2, fun k h r e1 e2 => (h3 k h r e1 e2).more hB⟩
theorem RunsR.drewN (hr : RunsR w B A n rs) (q : Nat) : RunsR (w.drewN q) B A n rs := by
  obtain ⟨hs, h1, h2, h3⟩ := hr
  exact ⟨hs, h1.keep fun _ _ => rfl, h2, fun k h r e1 e2 => ⟨(h3 k h r e1 e2).1, (h3 k h r e1 e2).2.1, (h3 k h r e1 e2).2.2.keep fun _ _ => rfl⟩⟩
theorem run_at (hr : RunsR w B A n rs) (hk : k < n) : ∃ (r : Rn) (b off : Nat) (A' : Option Addr) (m c : Nat), rs[k]? = some r ∧ A = some ⟨b, off, none⟩ ∧ b < B ∧ w.cell? ⟨b, off + k * 2, none⟩ = some (.slice A' m c) ∧ w.cell? ⟨b, off + k * 2 + 1, none⟩ = some (.int .i64 r.st) ∧ Reads w B 1 A' m (ints r.way) ∧ m ≤ 9223372036854775807 := by
  obtain ⟨hs, h1, h2, h3⟩ := hr
  obtain ⟨b, off, rfl, hb, hcell⟩ := h1.at_ (by omega)
  have hl := h1.1
  rw [rns_length] at hl
  have he : hs[k]? = some (hs[k]'(by omega)) := List.getElem?_eq_getElem (by omega)
  have he' : rs[k]? = some (rs[k]'(by omega)) := List.getElem?_eq_getElem (by omega)
  obtain ⟨e0, e1⟩ := rns_get he
  obtain ⟨r1, r3, r2⟩ := h3 _ _ _ he he'
  exact ⟨_, b, off, _, _, _, he', rfl, hb, hcell _ _ e0, by rw [← r1]; exact hcell _ _ e1, r2, r3⟩
end

theorem ints_flat (l : List Int) : l.flatMap (fun x => [Value.int .i64 x]) = ints l := by
  induction l with
  | nil => rfl
  | cons a l ih => simp [ints] at ih ⊢; exact ih
section
variable {H : Type} {enc : TypeId × Value → H} {w : World}
theorem read_ints {n : Nat} {cs : List Value} {y : DataW H × List MemPlace} {base : Nat} {spare : Nat → Bool} {held : Bool} (h : DataW.trod enc Tryz.prog w base spare held n 25 cs = some y) :
    ∃ (A : Option Addr) (len cap : Nat) (l : List Int), cs = [.slice A len cap] ∧ len ≤ 9223372036854775807 ∧ Reads w w.heap.size 1 A len (ints l) ∧ ∀ x ∈ l, I64 x := by
  obtain ⟨A', len', cap', l, hcs, hn, hr, hg⟩ := open_list (fun x : Int => [Value.int .i64 x]) 1 I64 (fun _ => rfl) Tryz.underlying25 (by kernel_rfl) (by omega) (fun n cs' y hl ht => by
    obtain ⟨v, rfl⟩ := List.length_eq_one_iff.1 hl
    obtain ⟨x0, rfl, hw⟩ := field_int Tryz.underlying2 ht
    exact ⟨x0, rfl, I64_of_wf hw⟩) h
  rw [ints_flat] at hr
  exact ⟨_, _, _, _, hcs, hn, hr, hg⟩
def Rn.good (x : RnH × List Int) (w : World) : Prop := I64 x.1.st ∧ x.1.m ≤ 9223372036854775807 ∧ Reads w w.heap.size 1 x.1.A x.1.m (ints x.2)
theorem read_rn {n : Nat} {cs : List Value} {y : DataW H × List MemPlace} {base : Nat} {spare : Nat → Bool} {held : Bool} (hl : cs.length = 2)
    (h : DataW.trod enc Tryz.prog w base spare held n 57 cs = some y) : ∃ x : RnH × List Int, cellsRn x.1 = cs ∧ Rn.good x w := by
  obtain ⟨n', hfs⟩ := trod_fields Tryz.underlying57 (by kernel_rfl) hl h
  obtain ⟨v0, z0, e0, t0⟩ := hfs 0 _ rfl
  obtain ⟨v1, z1, e1, t1⟩ := hfs 1 _ rfl
  obtain ⟨A, m, c, l, ee, hm, hr, _⟩ := read_ints t0
  obtain ⟨x1, rfl, g1⟩ := field_int Tryz.underlying2 t1
  injection ee with ee _
  subst ee
  exact ⟨(⟨A, m, c, x1⟩, l), (list2 hl e0 e1).symm, I64_of_wf g1, hm, hr⟩
theorem read_runs {fuel : Nat} {cs : List Value} {y : DataW H × List MemPlace} {base : Nat} {spare : Nat → Bool} {held : Bool} (h : DataW.trod enc Tryz.prog w base spare held fuel 26 cs = some y) :
    ∃ (A : Option Addr) (len cap : Nat) (rs : List Rn), cs = [.slice A len cap] ∧ len ≤ 9223372036854775807 ∧ RunsR w w.heap.size A len rs ∧ ∀ r ∈ rs, I64 r.st := by
  obtain ⟨A', len', cap', l, hcs, hn, hr, hgd⟩ := open_list (fun x : RnH × List Int => cellsRn x.1) 2 (fun x => Rn.good x w) (fun _ => rfl) Tryz.underlying26 (by kernel_rfl) (by omega) (fun n cs' y hl ht => by
    exact read_rn hl ht) h
  have e : l.flatMap (fun x : RnH × List Int => cellsRn x.1) = rns (l.map (·.1)) := by rw [rns, List.flatMap_map]
  rw [e] at hr
  have hlen := hr.1
  rw [rns_length, List.length_map] at hlen
  refine ⟨_, _, _, l.map (fun x => ⟨x.2, x.1.st⟩), hcs, hn, ⟨_, hr, by rw [List.length_map]; omega, fun k h r e1 e2 => ?_⟩, fun r hr => ?_⟩
  · rw [List.getElem?_map] at e1 e2
    rcases hx : l[k]? with _ | x
    · rw [hx] at e1; cases e1
    · rw [hx] at e1 e2
      injection e1 with e1; injection e2 with e2
      subst e1 e2
      have hg := hgd x (List.mem_of_getElem? hx)
      exact ⟨rfl, hg.2.1, hg.2.2⟩
  · obtain ⟨x, hx, rfl⟩ := List.mem_map.1 hr
    exact (hgd x hx).1
end

/-- The ways are short. -/
def SmallR (rs : List Rn) : Prop := ∀ (k : Nat) (r : Rn), rs[k]? = some r → r.way.length ≤ 1048576
theorem szRun_any (A : Option Addr) (m c : Nat) (st q : Int) (w : World) (hq0 : 0 ≤ q) (hq : q ≤ 1048576) (hm : m ≤ 9223372036854775807) :
    Calls Tryz.prog 23 #[.agg #[.slice A m c, .int .i64 st], .int .i64 q] w fun e w' => ∃ r : Int, e = .returned (.int .i64 r) ∧ Below w.heap.size w w' ∧ (r < 0 ∨ (0 ≤ r ∧ r ≤ q ∧ (m : Int) ≤ q)) := by
  go_enter Tryz.func23, Tryz.ntmps23
  go_wp2_with fail
  refine (szInt64S_any A m c q _ hq0 hq hm).mono ?_
  rintro e w1 ⟨rfl, r, rfl, hr⟩
  rcases hr with hr | ⟨h0, h1, h2⟩
  · go_wp2
    go_ret
    exact ⟨_, rfl, (Below.refl _ _).alloc (Nat.le_refl _) _, .inl (by omega)⟩
  · go_wp2
    go_ret
    exact ⟨_, rfl, (Below.refl _ _).alloc (Nat.le_refl _) _, .inr ⟨h0, h1, h2⟩⟩
theorem szRunS_any (A : Option Addr) (n c : Nat) (rs : List Rn) (q : Int) (B : Nat) (w : World) (h : RunsR w B A n rs) (hq0 : 0 ≤ q) (hq : q ≤ 1048576) (hn : n ≤ 9223372036854775807) (hB : B ≤ w.heap.size) :
    Calls Tryz.prog 11 #[.slice A n c, .int .i64 q] w fun e w' => ∃ r : Int, e = .returned (.int .i64 r) ∧ Below w.heap.size w w' ∧ (r < 0 ∨ (0 ≤ r ∧ r ≤ q ∧ (n : Int) ≤ q ∧ SmallR rs)) := by
  have HL := Lib.hid h.len
  by_cases hnq : (n : Int) ≤ q
  · go_enter Tryz.func11, Tryz.ntmps11
    go_wp2
    go_loopw [1, 5] (fun s i wr => ∃ (k : Nat) (r : Int), k ≤ n ∧ i = .int .i64 k ∧ s = .int .i64 r ∧ 0 ≤ r ∧ r ≤ q ∧ (∀ (j : Nat) (x : Rn), j < k → rs[j]? = some x → x.way.length ≤ 1048576) ∧ Below w.heap.size w wr) (fun _ i _ => n - (intOf i).toNat)
    case atStart => exact ⟨0, _, Nat.zero_le _, rfl, rfl, by omega, by omega, fun j x hj _ => by omega, Below.refl _ _⟩
    case round =>
      obtain ⟨k, r, hk, rfl, rfl, hr0, hr1, hall, hbel⟩ := hrel
      have HA := Lib.hid hall
      have HB := Lib.hid hbel
      clear hall
      by_cases hlt : k < n
      · obtain ⟨x, b, off, A', m, c', he, rfl, hb, c0, c1, hrd, hm⟩ := run_at (h.on hB hbel) hlt
        have HE := Lib.hid he
        have HM := Lib.hid (ints_len hrd)
        clear he hbel h hrd
        go_wp2_with fail
        refine (szRun_any A' m c' x.st r _ (by omega) (by omega) hm).mono ?_
        rintro e w1 ⟨r1, rfl, b1, hr⟩
        have HB1 := Lib.hid (bnext HB.out b1 (Nat.le_refl _))
        clear b1 c0 c1
        rcases hr with hr | ⟨hr2, hr3, hsm⟩
        · go_wp2
          go_ret
          exact ⟨_, rfl, HB1.out, .inl (by omega)⟩
        · have HS := Lib.hid hsm
          clear hsm
          go_wp2
          go_roundw
          case rel =>
            refine ⟨k + 1, _, by omega, by go_num, rfl, by omega, by omega, fun j y hj hy => ?_, HB1.out⟩
            by_cases e : j = k
            · subst e; have := HE.out; rw [this] at hy; injection hy with hy; subst hy; have := HS.out; have := HM.out; omega
            · exact HA.out j y (by omega) hy
          case measure => simp [intOf]; omega
      · obtain rfl : k = n := by omega
        go_wp2
        go_ret
        refine ⟨_, rfl, HB.out, .inr ⟨hr0, hr1, hnq, fun j x hx => ?_⟩⟩
        exact HA.out j x (by have := (List.getElem?_eq_some_iff.1 hx).1; have := HL.out; omega) hx
  · go_enter Tryz.func11, Tryz.ntmps11
    go_wp2
    go_ret
    exact ⟨_, rfl, Below.refl _ _, .inl (by omega)⟩
end Go.Proofs.YtgcepomehgedfaaGreatDoor
