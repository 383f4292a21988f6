/- Rows of one's own, block by block: what a call turns, what stands; the marks of a desk. No function of the program in sight. -/
import Derived.Test.YtgcepomehgedfaaDoorDkS
import Derived.Test.YtgcepomehgedfaaDoorDkD
import Derived.Test.YtgcepomehgedfaaDoorRnI
set_option linter.unusedVariables false
namespace Go.Proofs.YtgcepomehgedfaaDoor
open Go.RowKit

/-- The block in which a slice lies. -/
def inB (A : Option Addr) (b : Nat) : Prop := ∃ ad, A = some ad ∧ ad.block = b
/-- Of what was there only the blocks of S may have turned. -/
structure Off (S : Nat → Prop) (w w' : World) : Prop where
  os : w'.os = w.os
  tape : w'.tape = w.tape
  output : w'.output = w.output
  size : w.heap.size ≤ w'.heap.size
  block : ∀ k, k < w.heap.size → ¬ S k → w'.heap[k]? = w.heap[k]?
section
variable {S S' : Nat → Prop} {a b w w' : World} {B lo hi : Nat}
theorem Off.refl (S : Nat → Prop) (w : World) : Off S w w := ⟨rfl, rfl, rfl, Nat.le_refl _, fun _ _ _ => rfl⟩
theorem Off.trans (h : Off S a b) (k : Off S b w) : Off S a w :=
  ⟨k.os.trans h.os, k.tape.trans h.tape, k.output.trans h.output, Nat.le_trans h.size k.size, fun i hi hn => (k.block i (Nat.lt_of_lt_of_le hi h.size) hn).trans (h.block i hi hn)⟩
theorem Off.mono (h : Off S a w) (hs : ∀ b, S b → S' b) : Off S' a w := ⟨h.os, h.tape, h.output, h.size, fun k hk hn => h.block k hk fun hk' => hn (hs k hk')⟩
theorem Off.of_below (h : Below w.heap.size w w') (S : Nat → Prop) : Off S w w' := ⟨h.os, h.tape, h.output, h.size, fun k hk _ => h.block k hk⟩
theorem Off.then_ (h : Off S a b) (k : Below b.heap.size b w) : Off S a w := h.trans (Off.of_below k S)
theorem Off.setCell (h : Off S a w) {p : Addr} (hp : S p.block) (u : Value) : Off S a (w.setCell p u) :=
  ⟨h.os, h.tape, h.output, by simpa [World.setCell] using h.size, fun i hi hn => (Below.heap_setCell w p u i (fun e => hn (by rw [e]; exact hp))).trans (h.block i hi hn)⟩
theorem Off.below (h : Off S w w') (hs : ∀ b, S b → B ≤ b) (hB : B ≤ w.heap.size) : Below B w w' := ⟨h.os, h.tape, h.output, h.size, fun k hk => h.block k (by omega) fun hk' => by have := hs k hk'; omega⟩
/-- A row that lies in none of these blocks stands. -/
theorem Sl.off {t : TypeId} {size n c : Nat} {A : Option Addr} {xs : List Value} (h : Sl w lo hi t size A n c xs) (ho : Off S w w') (hs : ∀ b, inB A b → ¬ S b) : Sl w' lo hi t size A n c xs := by
  refine ⟨⟨h.1.1, ?_⟩, h.2⟩
  rcases h.1.2 with hn | ⟨g, cap, cur, h', hb, hg, rest⟩
  · exact .inl hn
  · refine .inr ⟨g, cap, cur, h', hb, ?_, rest⟩
    injection h' with h1
    exact (ho.block g (Array.getElem?_eq_some_iff.1 hg).1 (hs g ⟨_, h1, rfl⟩)).trans hg
theorem Sl.inB_lt {t : TypeId} {size n c : Nat} {A : Option Addr} {xs : List Value} (h : Sl w lo hi t size A n c xs) {b : Nat} (hb : inB A b) : lo ≤ b ∧ b < hi := by
  obtain ⟨ad, rfl, rfl⟩ := hb
  rcases h.form with ⟨h0, _⟩ | ⟨g, cur, h1, h2, h3, _⟩
  · cases h0
  · injection h1 with h1; subst h1; exact ⟨h2, h3⟩
theorem Sl.inB_heap {t : TypeId} {size n c : Nat} {A : Option Addr} {xs : List Value} (h : Sl w lo hi t size A n c xs) {b : Nat} (hb : inB A b) : b < w.heap.size := by
  have := h.low.inB_lt hb
  exact this.2
end
theorem inB_self (g o : Nat) : inB (some ⟨g, o, none⟩) g := ⟨_, rfl, rfl⟩
theorem inB_nil {b : Nat} : ¬ inB none b := fun ⟨_, h, _⟩ => by cases h

/-- Runs in blocks of one's own, each apart from all others. -/
structure OwnR (w : World) (lo hi : Nat) (A : Option Addr) (n c : Nat) (rs : List Rn) (rh : List RnH) : Prop where
  row : Sl w lo hi 54 2 A n c (rns rh)
  len : rs.length = n
  at_ : ∀ (i : Nat) (h : RnH) (r : Rn), rh[i]? = some h → rs[i]? = some r → h.st = r.st ∧ h.m ≤ 9223372036854775807 ∧ Sl w lo hi 2 1 h.A h.m h.c (ints r.way)
  ne : ∀ (i : Nat) (h : RnH), rh[i]? = some h → ∀ b, inB h.A b → ¬ inB A b
  ne2 : ∀ (i j : Nat) (h h' : RnH), i ≠ j → rh[i]? = some h → rh[j]? = some h' → ∀ b, inB h.A b → ¬ inB h'.A b
/-- The blocks of runs. -/
def inRn (A : Option Addr) (rh : List RnH) (b : Nat) : Prop := inB A b ∨ ∃ (i : Nat) (h : RnH), rh[i]? = some h ∧ inB h.A b
section
variable {w w' : World} {lo hi lo' hi' n c : Nat} {A : Option Addr} {rs : List Rn} {rh : List RnH} {S : Nat → Prop}
theorem OwnR.hlen (h : OwnR w lo hi A n c rs rh) : rh.length = n := by have := h.row.len; rw [rns_length] at this; omega
theorem OwnR.get (h : OwnR w lo hi A n c rs rh) {i : Nat} {x : RnH} (hx : rh[i]? = some x) : ∃ r, rs[i]? = some r := by
  have := (List.getElem?_eq_some_iff.1 hx).1
  exact ⟨_, List.getElem?_eq_getElem (by rw [h.len, ← h.hlen]; exact this)⟩
theorem OwnR.inRn_lt (h : OwnR w lo hi A n c rs rh) {b : Nat} (hb : inRn A rh b) : lo ≤ b ∧ b < hi := by
  rcases hb with hb | ⟨i, x, hx, hb⟩
  · exact h.row.inB_lt hb
  · obtain ⟨r, hr⟩ := h.get hx
    exact (h.at_ i x r hx hr).2.2.inB_lt hb
theorem OwnR.inRn_heap (h : OwnR w lo hi A n c rs rh) {b : Nat} (hb : inRn A rh b) : b < w.heap.size := by
  rcases hb with hb | ⟨i, x, hx, hb⟩
  · exact h.row.inB_heap hb
  · obtain ⟨r, hr⟩ := h.get hx
    exact (h.at_ i x r hx hr).2.2.inB_heap hb
theorem OwnR.off (h : OwnR w lo hi A n c rs rh) (ho : Off S w w') (hs : ∀ b, inRn A rh b → ¬ S b) : OwnR w' lo hi A n c rs rh :=
  ⟨h.row.off ho fun b hb => hs b (.inl hb), h.len, fun i x r hx hr => ⟨(h.at_ i x r hx hr).1, (h.at_ i x r hx hr).2.1, (h.at_ i x r hx hr).2.2.off ho fun b hb => hs b (.inr ⟨i, x, hx, hb⟩)⟩, h.ne, h.ne2⟩
theorem OwnR.on (h : OwnR w lo hi A n c rs rh) (hb : Below w.heap.size w w') : OwnR w' lo hi A n c rs rh :=
  ⟨h.row.on hb, h.len, fun i x r hx hr => ⟨(h.at_ i x r hx hr).1, (h.at_ i x r hx hr).2.1, (h.at_ i x r hx hr).2.2.on hb⟩, h.ne, h.ne2⟩
theorem OwnR.wide (h : OwnR w lo hi A n c rs rh) (h1 : lo' ≤ lo) (h2 : hi ≤ hi') : OwnR w lo' hi' A n c rs rh :=
  ⟨h.row.wide h1 h2, h.len, fun i x r hx hr => ⟨(h.at_ i x r hx hr).1, (h.at_ i x r hx hr).2.1, (h.at_ i x r hx hr).2.2.wide h1 h2⟩, h.ne, h.ne2⟩
theorem OwnR.low (h : OwnR w lo hi A n c rs rh) : OwnR w lo w.heap.size A n c rs rh :=
  ⟨h.row.low, h.len, fun i x r hx hr => ⟨(h.at_ i x r hx hr).1, (h.at_ i x r hx hr).2.1, (h.at_ i x r hx hr).2.2.low⟩, h.ne, h.ne2⟩
theorem OwnR.reads (h : OwnR w lo hi A n c rs rh) {B : Nat} (hB : hi ≤ B) : RunsR w B A n rs :=
  ⟨rh, h.row.reads hB, h.len, fun i x r hx hr => ⟨(h.at_ i x r hx hr).1, (h.at_ i x r hx hr).2.1, (h.at_ i x r hx hr).2.2.reads hB⟩⟩
theorem OwnR.nil (w : World) (lo hi : Nat) : OwnR w lo hi none 0 0 [] [] := ⟨Sl.nil _ _ _ _ _, rfl, fun i x r hx => by simp at hx, fun i x hx => by simp at hx, fun i j x x' _ hx => by simp at hx⟩
/-- The way of a run is written. -/
theorem OwnR.setWay (h : OwnR w lo hi A n c rs rh) {i : Nat} {x : RnH} {r : Rn} (hx : rh[i]? = some x) (hr : rs[i]? = some r) {way : List Int} (ho : Off (inB x.A) w w') (hw : Sl w' lo hi 2 1 x.A x.m x.c (ints way)) : OwnR w' lo hi A n c (rs.set i ⟨way, r.st⟩) rh := by
  refine ⟨h.row.off ho fun b hb hb' => h.ne i x hx b hb' hb, by rw [List.length_set]; exact h.len, fun j y q hy hq => ?_, h.ne, h.ne2⟩
  by_cases e : i = j
  · subst e
    rw [hx] at hy
    injection hy with hy
    subst hy
    rw [List.getElem?_set_self (List.getElem?_eq_some_iff.1 hr).1] at hq
    injection hq with hq
    subst hq
    exact ⟨(h.at_ i x r hx hr).1, (h.at_ i x r hx hr).2.1, hw⟩
  · rw [List.getElem?_set_ne e] at hq
    exact ⟨(h.at_ j y q hy hq).1, (h.at_ j y q hy hq).2.1, (h.at_ j y q hy hq).2.2.off ho fun b hb => h.ne2 j i y x (Ne.symm e) hy hx b hb⟩
theorem rns_set {l : List RnH} : ∀ {i : Nat} {x : RnH} (v : Int), l[i]? = some x → (rns l).set (i * 2 + 1) (.int .i64 v) = rns (l.set i ⟨x.A, x.m, x.c, v⟩) := by
  induction l with
  | nil => intro i x v h; simp at h
  | cons y l ih =>
    intro i x v h
    cases i with
    | zero =>
      simp only [List.getElem?_cons_zero, Option.some.injEq] at h
      subst h
      simp [rns, cellsRn]
    | succ i =>
      have := ih v (by simpa using h)
      simp only [rns, List.flatMap_cons, List.set_cons_succ, cellsRn] at this ⊢
      rw [show (i + 1) * 2 + 1 = (i * 2 + 1) + 1 + 1 by omega]
      simp only [List.cons_append, List.nil_append, List.set_cons_succ]
      rw [this]
/-- The start of a run is written. -/
theorem OwnR.setStart {g : Nat} (h : OwnR w lo hi (some ⟨g, 0, none⟩) n c rs rh) {i : Nat} {x : RnH} {r : Rn} (hx : rh[i]? = some x) (hr : rs[i]? = some r) (v : Int) : OwnR (w.setCell ⟨g, i * 2 + 1, none⟩ (.int .i64 v)) lo hi (some ⟨g, 0, none⟩) n c (rs.set i ⟨r.way, v⟩) (rh.set i ⟨x.A, x.m, x.c, v⟩) := by
  have ho : Off (inB (some ⟨g, 0, none⟩)) w (w.setCell ⟨g, i * 2 + 1, none⟩ (.int .i64 v)) := (Off.refl _ _).setCell ⟨_, rfl, rfl⟩ _
  have hil := (List.getElem?_eq_some_iff.1 hx).1
  have hget : ∀ (j : Nat) (y : RnH), (rh.set i ⟨x.A, x.m, x.c, v⟩)[j]? = some y → ∃ z, rh[j]? = some z ∧ z.A = y.A ∧ z.m = y.m ∧ z.c = y.c := fun j y hy => by
    by_cases e : i = j
    · subst e
      rw [List.getElem?_set_self hil] at hy
      injection hy with hy
      subst hy
      exact ⟨x, hx, rfl, rfl, rfl⟩
    · rw [List.getElem?_set_ne e] at hy
      exact ⟨y, hy, rfl, rfl, rfl⟩
  refine ⟨?_, by rw [List.length_set]; exact h.len, fun j y q hy hq => ?_, fun j y hy b hb => ?_, fun j j' y y' hne hy hy' b hb => ?_⟩
  · rw [← rns_set v hx]
    exact h.row.set_ _ _
  · by_cases e : i = j
    · subst e
      rw [List.getElem?_set_self hil] at hy
      rw [List.getElem?_set_self (List.getElem?_eq_some_iff.1 hr).1] at hq
      injection hy with hy
      injection hq with hq
      subst hy hq
      exact ⟨rfl, (h.at_ i x r hx hr).2.1, (h.at_ i x r hx hr).2.2.off ho fun b hb => h.ne i x hx b hb⟩
    · rw [List.getElem?_set_ne e] at hy hq
      exact ⟨(h.at_ j y q hy hq).1, (h.at_ j y q hy hq).2.1, (h.at_ j y q hy hq).2.2.off ho fun b hb => h.ne j y hy b hb⟩
  · obtain ⟨z, hz, e1, _, _⟩ := hget j y hy
    exact h.ne j z hz b (by rw [e1]; exact hb)
  · obtain ⟨z, hz, e1, _, _⟩ := hget j y hy
    obtain ⟨z', hz', e1', _, _⟩ := hget j' y' hy'
    have := h.ne2 j j' z z' hne hz hz' b (by rw [e1]; exact hb)
    rw [e1'] at this
    exact this
end
/-- A desk in blocks of one's own, all rows apart. -/
structure OwnD (w : World) (lo hi : Nat) (h : DkH) (d : Dk) (rh : List RnH) : Prop where
  tubes : Sl w lo hi 42 3 h.A1 h.n1 h.c1 (tbs d.net.tubes)
  times : Sl w lo hi 2 1 h.A2 h.n2 h.c2 (ints d.times)
  runs : OwnR w lo hi h.A3 h.n3 h.c3 d.runs rh
  n12 : ∀ b, inB h.A1 b → ¬ inB h.A2 b
  n1r : ∀ b, inB h.A1 b → ¬ inRn h.A3 rh b
  n2r : ∀ b, inB h.A2 b → ¬ inRn h.A3 rh b
def inD (h : DkH) (rh : List RnH) (b : Nat) : Prop := inB h.A1 b ∨ inB h.A2 b ∨ inRn h.A3 rh b
section
variable {w w' : World} {lo hi lo' hi' : Nat} {h : DkH} {d : Dk} {rh : List RnH} {S : Nat → Prop}
theorem OwnD.on (k : OwnD w lo hi h d rh) (hb : Below w.heap.size w w') : OwnD w' lo hi h d rh := ⟨k.tubes.on hb, k.times.on hb, k.runs.on hb, k.n12, k.n1r, k.n2r⟩
theorem OwnD.wide (k : OwnD w lo hi h d rh) (h1 : lo' ≤ lo) (h2 : hi ≤ hi') : OwnD w lo' hi' h d rh := ⟨k.tubes.wide h1 h2, k.times.wide h1 h2, k.runs.wide h1 h2, k.n12, k.n1r, k.n2r⟩
theorem OwnD.low (k : OwnD w lo hi h d rh) : OwnD w lo w.heap.size h d rh := ⟨k.tubes.low, k.times.low, k.runs.low, k.n12, k.n1r, k.n2r⟩
theorem OwnD.off (k : OwnD w lo hi h d rh) (ho : Off S w w') (hs : ∀ b, inD h rh b → ¬ S b) : OwnD w' lo hi h d rh :=
  ⟨k.tubes.off ho fun b hb => hs b (.inl hb), k.times.off ho fun b hb => hs b (.inr (.inl hb)), k.runs.off ho fun b hb => hs b (.inr (.inr hb)), k.n12, k.n1r, k.n2r⟩
theorem OwnD.reads (k : OwnD w lo hi h d rh) {B : Nat} (hB : hi ≤ B) : DkR w B h d := ⟨k.tubes.reads hB, k.times.reads hB, k.runs.reads hB⟩
theorem OwnD.inD_lt (k : OwnD w lo hi h d rh) {b : Nat} (hb : inD h rh b) : lo ≤ b ∧ b < hi := by
  rcases hb with hb | hb | hb
  · exact k.tubes.inB_lt hb
  · exact k.times.inB_lt hb
  · exact k.runs.inRn_lt hb
end
-- the marks
def marksK (k : Int) (n : Nat) : List Int := (List.range n).map fun (i : Nat) => k + (i : Int)
theorem marksK_length (k : Int) (n : Nat) : (marksK k n).length = n := by simp [marksK]
theorem marksK_get {k : Int} {n i : Nat} (h : i < n) : (marksK k n)[i]? = some (k + (i : Int)) := by simp [marksK, h]
def marksT (k : Int) (n : Nat) : List Tb := (List.range n).map fun (i : Nat) => ⟨k + 3 * (i : Int), k + 3 * (i : Int) + 1, k + 3 * (i : Int) + 2⟩
theorem marksT_length (k : Int) (n : Nat) : (marksT k n).length = n := by simp [marksT]
theorem marksT_get {k : Int} {n i : Nat} (h : i < n) : (marksT k n)[i]? = some ⟨k + 3 * (i : Int), k + 3 * (i : Int) + 1, k + 3 * (i : Int) + 2⟩ := by simp [marksT, h]
def wlen (rs : List Rn) (i : Nat) : Nat := ((rs[i]?).map fun r => r.way.length).getD 0
theorem wlen_at {rs : List Rn} {i : Nat} {r : Rn} (h : rs[i]? = some r) : wlen rs i = r.way.length := by simp [wlen, h]
def kR (k : Int) (rs : List Rn) : Nat → Int
  | 0 => k
  | i + 1 => kR k rs i + (wlen rs i : Int) + 1
def markR (k : Int) (rs : List Rn) : List Rn := (List.range rs.length).map fun i => ⟨marksK (kR k rs i) (wlen rs i), kR k rs i + (wlen rs i : Int)⟩
theorem markR_length (k : Int) (rs : List Rn) : (markR k rs).length = rs.length := by simp [markR]
theorem markR_get {k : Int} {rs : List Rn} {i : Nat} (h : i < rs.length) : (markR k rs)[i]? = some ⟨marksK (kR k rs i) (wlen rs i), kR k rs i + (wlen rs i : Int)⟩ := by simp [markR, h]
theorem kR_bd {k : Int} {rs : List Rn} (hs : ∀ i, wlen rs i ≤ 1048576) : ∀ i : Nat, k ≤ kR k rs i ∧ kR k rs i ≤ k + 1048577 * (i : Int)
  | 0 => by simp [kR]
  | i + 1 => by
    have := kR_bd (k := k) hs i
    have := hs i
    unfold kR
    omega
/-- The marked desk. -/
def k1D (k : Int) (d : Dk) : Int := k + 3 * (d.net.tubes.length : Int)
def k2D (k : Int) (d : Dk) : Int := k1D k d + (d.times.length : Int)
def k3D (k : Int) (d : Dk) : Int := kR (k2D k d) d.runs d.runs.length
def markD (k : Int) (d : Dk) : Dk := ⟨⟨d.net.sta, marksT k d.net.tubes.length⟩, marksK (k1D k d) d.times.length, markR (k2D k d) d.runs, d.log⟩
end Go.Proofs.YtgcepomehgedfaaDoor
