/- Events: counts by hours and by stations, in the reference and in the program. -/
import Derived.Test.YtjmlcobbjpmjpaaDoorEvB
set_option linter.unusedVariables false
namespace Go.Proofs.YtjmlcobbjpmjpaaDoor
open Go.RowKit

def bump (hs : List Int) (x : Int) : List Int := hs.set x.toNat (hs[x.toNat]?.getD 0 + 1)
def histOf (f : Ev → Int) (m : Nat) (l : List Ev) : List Int := l.foldl (fun hs e => bump hs (f e)) (zer m)
theorem bump_length (hs : List Int) (x : Int) : (bump hs x).length = hs.length := by simp [bump]
theorem histOf_length (f : Ev → Int) (m : Nat) (l : List Ev) : (histOf f m l).length = m := by
  unfold histOf
  have : ∀ hs : List Int, hs.length = m → (l.foldl (fun hs e => bump hs (f e)) hs).length = m := by
    induction l with
    | nil => intro hs h; exact h
    | cons a l ih => intro hs h; exact ih _ (by rw [bump_length]; exact h)
  exact this _ (zer_length m)
theorem histOf_step (f : Ev → Int) (m : Nat) {l : List Ev} {k : Nat} {e : Ev} (he : l[k]? = some e) : histOf f m (l.take (k + 1)) = bump (histOf f m (l.take k)) (f e) := by
  rw [List.take_add_one, he]
  simp [histOf, List.foldl_append]
theorem bump_bound {hs : List Int} {x : Int} {b : Int} (h : ∀ y ∈ hs, 0 ≤ y ∧ y ≤ b) (hb : 0 ≤ b) : ∀ y ∈ bump hs x, 0 ≤ y ∧ y ≤ b + 1 := by
  intro y hy
  rcases List.mem_or_eq_of_mem_set hy with h1 | h1
  · have := h y h1; omega
  · subst h1
    rcases hx : hs[x.toNat]? with _ | z
    · simp; omega
    · have := h z (List.mem_of_getElem? hx)
      simp only [Option.getD_some]; omega
theorem histOf_bound (f : Ev → Int) (m : Nat) (l : List Ev) : ∀ y ∈ histOf f m l, 0 ≤ y ∧ y ≤ (l.length : Int) := by
  have : ∀ (l : List Ev) (hs : List Int) (b : Int), 0 ≤ b → (∀ y ∈ hs, 0 ≤ y ∧ y ≤ b) → ∀ y ∈ l.foldl (fun hs e => bump hs (f e)) hs, 0 ≤ y ∧ y ≤ b + (l.length : Int) := by
    intro l
    induction l with
    | nil => intro hs b hb h y hy; have := h y hy; simp; omega
    | cons a l ih =>
      intro hs b hb h y hy
      have := ih (bump hs (f a)) (b + 1) (by omega) (bump_bound h hb) y hy
      simp only [List.length_cons]; omega
  intro y hy
  have := this l (zer m) 0 (by omega) (by intro y hy; simp [zer] at hy; omega) y hy
  omega
theorem okE_s {e : Ev} (h : okE e = true) : 0 ≤ e.s ∧ e.s ≤ 9 := by simp only [okE, Bool.and_eq_true, inR_true] at h; exact h.1
theorem okE_h {e : Ev} (h : okE e = true) : 0 ≤ e.h ∧ e.h ≤ 23 := by simp only [okE, Bool.and_eq_true, inR_true] at h; exact h.2
theorem okEv_all {l : List Ev} (h : okEv l = true) {k : Nat} {e : Ev} (he : l[k]? = some e) : okE e = true := by
  simp only [okEv, Bool.and_eq_true, List.all_eq_true] at h
  exact h.1 e (List.mem_of_getElem? he)
theorem okEv_len {l : List Ev} (h : okEv l = true) : l.length ≤ 200 := by
  simp only [okEv, Bool.and_eq_true, decide_eq_true_eq] at h
  exact h.2

def hoursOf (l : List Ev) : List Int := histOf (·.h) 24 l
def stationsOf (l : List Ev) : List Int := histOf (·.s) 10 l

theorem make24 (w : World) : (Instr.makeSlice 36 (.int .i64 24) (.int .i64 24)).run Tryd.prog w = .ok (.slice (some ⟨w.heap.size, 0, none⟩) 24 24) (w.alloc (.cells (ints (zer 24)).toArray 2)) := by
  have := run_make_small (P := Tryd.prog) 36 2 (.int .i64 0) 1 8 Tryd.underlying36 (by kernel_rfl) (by decide) 24 (by decide) w
  rw [show (Value.int .i64 0).cells = #[.int .i64 0] from rfl, made_zer] at this
  exact this
theorem make10 (w : World) : (Instr.makeSlice 36 (.int .i64 10) (.int .i64 10)).run Tryd.prog w = .ok (.slice (some ⟨w.heap.size, 0, none⟩) 10 10) (w.alloc (.cells (ints (zer 10)).toArray 2)) := by
  have := run_make_small (P := Tryd.prog) 36 2 (.int .i64 0) 1 8 Tryd.underlying36 (by kernel_rfl) (by decide) 10 (by decide) w
  rw [show (Value.int .i64 0).cells = #[.int .i64 0] from rfl, made_zer] at this
  exact this

/-- What the round of a count knows. -/
def CntRel (f : Ev → Int) (m : Nat) (l : List Ev) (t : TypeId) (w wr : World) (k : Nat) : Prop := Blk wr w.heap.size t (ints (histOf f m (l.take k))).toArray ∧ Below w.heap.size w wr
theorem CntRel.start (f : Ev → Int) (m : Nat) (l : List Ev) (t : TypeId) (w : World) : CntRel f m l t w (w.alloc (.cells (ints (zer m)).toArray t)) 0 :=
  ⟨by simpa [histOf] using Blk.new w t (ints (zer m)).toArray, (Below.refl _ _).alloc (Nat.le_refl _) _⟩
theorem CntRel.at_ {f : Ev → Int} {m : Nat} {l : List Ev} {t : TypeId} {w wr : World} {k : Nat} (h : CntRel f m l t w wr k) (x : Nat) (hx : x < m) :
    ∃ y : Int, wr.cell? ⟨w.heap.size, x, none⟩ = some (.int .i64 y) ∧ wr.frozen? ⟨w.heap.size, x, none⟩ = false ∧ 0 ≤ y ∧ y ≤ k ∧ (histOf f m (l.take k))[x]? = some y := by
  have hl := histOf_length f m (l.take k)
  have hx' : (histOf f m (l.take k))[x]? = some ((histOf f m (l.take k))[x]'(by omega)) := List.getElem?_eq_getElem (by omega)
  have hb := histOf_bound f m (l.take k) _ (List.mem_of_getElem? hx')
  have : (l.take k).length ≤ k := List.length_take_le _ _
  exact ⟨_, ints_cell h.1 hx', h.1.frozen _, hb.1, by omega, hx'⟩
theorem CntRel.step {f : Ev → Int} {m : Nat} {l : List Ev} {t : TypeId} {w wr : World} {k : Nat} (h : CntRel f m l t w wr k) {e : Ev} (he : l[k]? = some e) (x : Nat) (hf : f e = x) {y : Int} (hy : (histOf f m (l.take k))[x]? = some y) :
    CntRel f m l t w (wr.setCell ⟨w.heap.size, x, none⟩ (.int .i64 (y + 1))) (k + 1) := by
  refine ⟨?_, h.2.setCell (Nat.le_refl _) _⟩
  have := ints_set h.1 x (y + 1)
  rw [histOf_step f m he, bump, hf, Int.toNat_natCast, hy]
  exact this
theorem CntRel.on {f : Ev → Int} {m : Nat} {l : List Ev} {t : TypeId} {w wr wr' : World} {k : Nat} (h : CntRel f m l t w wr k) (hb : Below wr.heap.size wr wr') : CntRel f m l t w wr' k :=
  ⟨h.1.on hb, bnext h.2 hb (Nat.le_refl _)⟩
theorem CntRel.new {f : Ev → Int} {m : Nat} {l : List Ev} {t : TypeId} {w wr : World} {k : Nat} (h : CntRel f m l t w wr k) (o : Obj) : CntRel f m l t w (wr.alloc o) k :=
  ⟨h.1.alloc o, h.2.alloc (Nat.le_of_lt h.1.lt) o⟩
theorem CntRel.done {f : Ev → Int} {m : Nat} {l : List Ev} {t : TypeId} {w wr : World} {k : Nat} (h : CntRel f m l t w wr k) (hk : l.length = k) : Blk wr w.heap.size t (ints (histOf f m l)).toArray := by
  have := h.1
  rwa [List.take_of_length_le (by omega)] at this

theorem l26Hours_any (A : Option Addr) (n c B : Nat) (l : List Ev) (w : World) (h : Reads w B 2 A n (evs l)) (hB : B ≤ w.heap.size) (hok : okEv l = true) :
    Calls Tryd.prog 73 #[.slice A n c] w fun e w' => ∃ g, e = .returned (.slice (some ⟨g, 0, none⟩) 24 24) ∧ Sl w' w.heap.size w'.heap.size 2 1 (some ⟨g, 0, none⟩) 24 24 (ints (hoursOf l)) ∧ Below w.heap.size w w' := by
  have hl := Lib.hid (evs_len h)
  have hn : n ≤ 200 := by have := okEv_len hok; have := hl.out; omega
  have HO := Lib.hid hok
  have hmk := make24
  clear hok
  go_enter Tryd.func73, Tryd.ntmps73
  go_wp2
  clear hmk
  go_loopw [4] (fun i wr => ∃ (k : Nat), k ≤ n ∧ i = .int .i64 k ∧ CntRel (·.h) 24 l 2 w wr k) (fun i _ => n - (intOf i).toNat)
  case atStart => exact ⟨0, Nat.zero_le _, rfl, CntRel.start _ _ _ _ _⟩
  case round =>
    obtain ⟨k, hk, rfl, hrel⟩ := hrel
    have HR := Lib.hid hrel
    clear hrel
    by_cases hlt : k < n
    · obtain ⟨⟨s, hh⟩, b, off, he, rfl, hb, c0, c1⟩ := ev_at (h.on hB HR.out.2) hlt
      have hbd := okE_h (okEv_all HO.out he)
      simp only at c0 c1 hbd
      obtain ⟨x, rfl⟩ := Int.eq_ofNat_of_zero_le hbd.1
      have hx : x < 24 := by omega
      obtain ⟨y, d0, d1, hy0, hy1, hy⟩ := HR.out.at_ x hx
      have HE := Lib.hid he
      have HY := Lib.hid hy
      clear he hy hbd c0
      go_wp2
      go_roundw
      case rel => exact ⟨k + 1, by omega, by go_num, HR.out.step HE.out x rfl HY.out⟩
      case measure => simp [intOf]; omega
    · obtain rfl : k = n := by omega
      go_wp2
      go_ret
      exact ⟨_, rfl, Sl.of_blk (HR.out.done hl.out) (Nat.le_refl _) HR.out.1.lt (by rw [ints_length]; exact histOf_length _ _ _) (by decide), HR.out.2⟩
theorem l26Stations_any (A : Option Addr) (n c B : Nat) (l : List Ev) (w : World) (h : Reads w B 2 A n (evs l)) (hB : B ≤ w.heap.size) (hok : okEv l = true) :
    Calls Tryd.prog 75 #[.slice A n c] w fun e w' => ∃ g, e = .returned (.slice (some ⟨g, 0, none⟩) 10 10) ∧ Sl w' w.heap.size w'.heap.size 2 1 (some ⟨g, 0, none⟩) 10 10 (ints (stationsOf l)) ∧ Below w.heap.size w w' := by
  have hl := Lib.hid (evs_len h)
  have hn : n ≤ 200 := by have := okEv_len hok; have := hl.out; omega
  have HO := Lib.hid hok
  have hmk := make10
  clear hok
  go_enter Tryd.func75, Tryd.ntmps75
  go_wp2
  clear hmk
  go_loopw [4] (fun i wr => ∃ (k : Nat), k ≤ n ∧ i = .int .i64 k ∧ CntRel (·.s) 10 l 2 w wr k) (fun i _ => n - (intOf i).toNat)
  case atStart => exact ⟨0, Nat.zero_le _, rfl, CntRel.start _ _ _ _ _⟩
  case round =>
    obtain ⟨k, hk, rfl, hrel⟩ := hrel
    have HR := Lib.hid hrel
    clear hrel
    by_cases hlt : k < n
    · obtain ⟨⟨s, hh⟩, b, off, he, rfl, hb, c0, c1⟩ := ev_at (h.on hB HR.out.2) hlt
      have hbd := okE_s (okEv_all HO.out he)
      simp only at c0 c1 hbd
      obtain ⟨x, rfl⟩ := Int.eq_ofNat_of_zero_le hbd.1
      have hx : x < 10 := by omega
      obtain ⟨y, d0, d1, hy0, hy1, hy⟩ := HR.out.at_ x hx
      have HE := Lib.hid he
      have HY := Lib.hid hy
      clear he hy hbd c1
      go_wp2
      go_roundw
      case rel => exact ⟨k + 1, by omega, by go_num, HR.out.step HE.out x rfl HY.out⟩
      case measure => simp [intOf]; omega
    · obtain rfl : k = n := by omega
      go_wp2
      go_ret
      exact ⟨_, rfl, Sl.of_blk (HR.out.done hl.out) (Nat.le_refl _) HR.out.1.lt (by rw [ints_length]; exact histOf_length _ _ _) (by decide), HR.out.2⟩
theorem byHour_any (A : Option Addr) (n c B : Nat) (l : List Ev) (w : World) (h : Reads w B 2 A n (evs l)) (hB : B ≤ w.heap.size) (hok : okEv l = true) :
    Calls Tryd.prog 68 #[.slice A n c] w fun e w' => ∃ g, e = .returned (.slice (some ⟨g, 0, none⟩) 24 24) ∧ Sl w' w.heap.size w'.heap.size 2 1 (some ⟨g, 0, none⟩) 24 24 (ints (hoursOf l)) ∧ Below w.heap.size w w' := by
  have hl := Lib.hid (evs_len h)
  have hn : n ≤ 200 := by have := okEv_len hok; have := hl.out; omega
  have HO := Lib.hid hok
  have hmk := make24
  clear hok
  go_enter Tryd.func68, Tryd.ntmps68
  go_wp2
  clear hmk
  go_loopw [9] (fun i wr => ∃ (k : Nat), k ≤ n ∧ i = .int .i64 k ∧ CntRel (·.h) 24 l 2 w wr k) (fun i _ => n - (intOf i).toNat)
  case atStart => exact ⟨0, Nat.zero_le _, rfl, CntRel.start _ _ _ _ _⟩
  case round =>
    obtain ⟨k, hk, rfl, hrel⟩ := hrel
    have HR := Lib.hid hrel
    clear hrel
    by_cases hlt : k < n
    · obtain ⟨⟨s, hh⟩, b, off, he, rfl, hb, c0, c1⟩ := ev_at (h.on hB HR.out.2) hlt
      have hbd := okE_h (okEv_all HO.out he)
      simp only at c0 c1 hbd
      obtain ⟨x, rfl⟩ := Int.eq_ofNat_of_zero_le hbd.1
      have hx : x < 24 := by omega
      obtain ⟨y, d0, d1, hy0, hy1, hy⟩ := HR.out.at_ x hx
      have HE := Lib.hid he
      have HY := Lib.hid hy
      clear he hy hbd
      have hg := HR.out.1.lt
      go_wp2
      go_roundw
      case rel => exact ⟨k + 1, by omega, by go_num, (HR.out.step HE.out x rfl HY.out).new _⟩
      case measure => simp [intOf]; omega
    · obtain rfl : k = n := by omega
      go_wp2
      go_ret
      exact ⟨_, rfl, Sl.of_blk (HR.out.done hl.out) (Nat.le_refl _) HR.out.1.lt (by rw [ints_length]; exact histOf_length _ _ _) (by decide), HR.out.2⟩
theorem byStation_any (A : Option Addr) (n c B : Nat) (l : List Ev) (w : World) (h : Reads w B 2 A n (evs l)) (hB : B ≤ w.heap.size) (hok : okEv l = true) :
    Calls Tryd.prog 74 #[.slice A n c] w fun e w' => ∃ g, e = .returned (.slice (some ⟨g, 0, none⟩) 10 10) ∧ Sl w' w.heap.size w'.heap.size 2 1 (some ⟨g, 0, none⟩) 10 10 (ints (stationsOf l)) ∧ Below w.heap.size w w' := by
  have hl := Lib.hid (evs_len h)
  have hn : n ≤ 200 := by have := okEv_len hok; have := hl.out; omega
  have HO := Lib.hid hok
  have hmk := make10
  clear hok
  go_enter Tryd.func74, Tryd.ntmps74
  go_wp2
  clear hmk
  go_loopw [9] (fun i wr => ∃ (k : Nat), k ≤ n ∧ i = .int .i64 k ∧ CntRel (·.s) 10 l 2 w wr k) (fun i _ => n - (intOf i).toNat)
  case atStart => exact ⟨0, Nat.zero_le _, rfl, CntRel.start _ _ _ _ _⟩
  case round =>
    obtain ⟨k, hk, rfl, hrel⟩ := hrel
    have HR := Lib.hid hrel
    clear hrel
    by_cases hlt : k < n
    · obtain ⟨⟨s, hh⟩, b, off, he, rfl, hb, c0, c1⟩ := ev_at (h.on hB HR.out.2) hlt
      have hbd := okE_s (okEv_all HO.out he)
      simp only at c0 c1 hbd
      obtain ⟨x, rfl⟩ := Int.eq_ofNat_of_zero_le hbd.1
      have hx : x < 10 := by omega
      obtain ⟨y, d0, d1, hy0, hy1, hy⟩ := HR.out.at_ x hx
      have HE := Lib.hid he
      have HY := Lib.hid hy
      clear he hy hbd
      have hg := HR.out.1.lt
      go_wp2
      go_roundw
      case rel => exact ⟨k + 1, by omega, by go_num, (HR.out.step HE.out x rfl HY.out).new _⟩
      case measure => simp [intOf]; omega
    · obtain rfl : k = n := by omega
      go_wp2
      go_ret
      exact ⟨_, rfl, Sl.of_blk (HR.out.done hl.out) (Nat.le_refl _) HR.out.1.lt (by rw [ints_length]; exact histOf_length _ _ _) (by decide), HR.out.2⟩
end Go.Proofs.YtjmlcobbjpmjpaaDoor
