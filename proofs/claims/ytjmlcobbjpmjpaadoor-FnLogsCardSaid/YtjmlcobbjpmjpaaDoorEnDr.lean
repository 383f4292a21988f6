/- Entries that are drawn. -/
import Derived.Test.YtjmlcobbjpmjpaaDoorDrw
import Derived.Test.YtjmlcobbjpmjpaaDoorEnA
import Derived.Test.YtjmlcobbjpmjpaaDoorOneF
import Derived.Test.YtjmlcobbjpmjpaaDoorLogL
set_option linter.unusedVariables false
set_option linter.unusedSimpArgs false
namespace Go.Proofs.YtjmlcobbjpmjpaaDoor
open Go.RowKit

theorem Blk.only {lo hi g : Nat} {t : TypeId} {cs : Array Value} {w w' : World} (h : Blk w g t cs) (ho : Only lo hi w w') (hd : g < lo ∨ hi ≤ g) : Blk w' g t cs := (ho.block g h.lt hd).trans h
theorem Blk.cast {g : Nat} {t : TypeId} {cs cs' : Array Value} {w : World} (h : Blk w g t cs) (e : cs = cs') : Blk w g t cs' := e ▸ h
theorem small_texts {t : ByteArray} : (t ∈ ([⟨#[115, 101, 101, 110]⟩, ⟨#[115, 101, 110, 116]⟩, ⟨#[115, 116, 97, 114, 45, 51]⟩, ⟨#[108, 111, 115, 116]⟩] : List ByteArray) → t.size ≤ 12) ∧ (t ∈ ([⟨#[]⟩, ⟨#[83, 101, 101, 110]⟩, ⟨#[97, 32, 98]⟩] : List ByteArray) → t.size ≤ 12) := by
  constructor
  · intro h
    simp only [List.mem_cons, List.not_mem_nil, or_false] at h
    rcases h with h | h | h | h <;> subst h <;> decide
  · intro h
    simp only [List.mem_cons, List.not_mem_nil, or_false] at h
    rcases h with h | h | h <;> subst h <;> decide
/-- What a draw of an entry leaves. -/
def EnDrawn (g k : Nat) (w : World) (e : Ending) (w' : World) : Prop :=
  ∃ x : En, e = .returned (.agg #[.int .i64 x.day, .string x.what, .int .i64 x.val]) ∧ x.good ∧ x.small ∧ Src g (k + 20) w' ∧ Only g (g + 1) w w'

set_option maxHeartbeats 4000000 in
set_option maxRecDepth 100000 in
theorem l27DrawEntry_any (g k : Nat) (day : Int) (w : World) (h : Src g k w) (hk : k ≤ 10000000000) (hd0 : 0 ≤ day) (hd1 : day ≤ 100000) :
    Calls Tryd.prog 95 #[.pointer (some ⟨g, 0, none⟩), .int .i64 day] w fun e w' => EnDrawn g k w e w' := by
  have hgw := h.lt
  have y4 := Blk.new w 41 #[.int .i64 0, .string ⟨#[]⟩, .int .i64 0]
  go_enter Tryd.func95, Tryd.ntmps95
  go_wp2_with fail
  refine (pick_any g k 4 _ (h.alloc _) (by omega) ⟨by omega, by omega⟩).mono ?_
  rintro e w1 ⟨x1, rfl, hx1, s1, o1⟩
  have hx1a := hx1.lt (by omega)
  have hx1b := hx1.1
  have z1 := o1.size
  simp at z1
  clear hx1 h
  replace y4 := y4.only o1 (Or.inr (by omega))
  have HO1 := Lib.hid (((Only.refl g (g + 1) w).alloc _).trans o1)
  clear o1
  have y5 := (Blk.new w1 41 #[.int .i64 (day + x1), .string ⟨#[]⟩, .int .i64 0]).alloc (.cells #[.string ⟨#[115, 101, 101, 110]⟩, .string ⟨#[115, 101, 110, 116]⟩, .string ⟨#[115, 116, 97, 114, 45, 51]⟩, .string ⟨#[108, 111, 115, 116]⟩] 9)
  have yt : Blk ((w1.alloc (.cells #[.int .i64 (day + x1), .string ⟨#[]⟩, .int .i64 0] 41)).alloc (.cells #[.string ⟨#[115, 101, 101, 110]⟩, .string ⟨#[115, 101, 110, 116]⟩, .string ⟨#[115, 116, 97, 114, 45, 51]⟩, .string ⟨#[108, 111, 115, 116]⟩] 9)) (w1.heap.size + 1) 9 #[.string ⟨#[115, 101, 101, 110]⟩, .string ⟨#[115, 101, 110, 116]⟩, .string ⟨#[115, 116, 97, 114, 45, 51]⟩, .string ⟨#[108, 111, 115, 116]⟩] := by simpa using Blk.new (w1.alloc (.cells #[.int .i64 (day + x1), .string ⟨#[]⟩, .int .i64 0] 41)) 9 #[.string ⟨#[115, 101, 101, 110]⟩, .string ⟨#[115, 101, 110, 116]⟩, .string ⟨#[115, 116, 97, 114, 45, 51]⟩, .string ⟨#[108, 111, 115, 116]⟩]
  go_wp2_with fail
  refine (text_any g _ (w1.heap.size + 1) 4 9 [⟨#[115, 101, 101, 110]⟩, ⟨#[115, 101, 110, 116]⟩, ⟨#[115, 116, 97, 114, 45, 51]⟩, ⟨#[108, 111, 115, 116]⟩] _ ((s1.alloc _).alloc _) (by omega) yt rfl (by omega) (by omega) (by omega)).mono ?_
  rintro e w2 ⟨t2, rfl, ht2, s2, o2⟩
  have hts := small_texts.1 ht2
  have z2 := o2.size
  simp at z2
  clear ht2 yt
  replace y4 := ((y4.alloc _).alloc _).only o2 (Or.inr (by omega))
  replace y5 := y5.only o2 (Or.inr (by omega))
  have HO2 := Lib.hid (((HO1.out.alloc _).alloc _).trans o2)
  clear o2 s1
  have c51 := y5.cellAt 1 (by simp)
  have f51 := y5.frozen 1
  simp only [List.getElem_toArray, List.getElem_cons_zero, List.getElem_cons_succ] at c51
  replace y4 := y4.far (p := ⟨w1.heap.size, 1, none⟩) (by simp; omega) (.string t2)
  replace y5 := (y5.set_ 1 (.string t2)).cast (cs' := #[.int .i64 (day + x1), .string t2, .int .i64 0]) rfl
  have HO2b := Lib.hid (HO2.out.far (p := ⟨w1.heap.size, 1, none⟩) (by simp; omega) (.string t2))
  go_wp2_with fail
  refine (pick_any g _ 900 _ (s2.set_ (by simp; omega) _) (by omega) ⟨by omega, by omega⟩).mono ?_
  rintro e w3 ⟨x3, rfl, hx3, s3, o3⟩
  have hx3a := hx3.lt (by omega)
  have hx3b := hx3.1
  clear hx3 s2 c51 f51
  have z3 := o3.size
  simp [World.setCell] at z3
  replace y4 := y4.only o3 (Or.inr (by omega))
  replace y5 := y5.only o3 (Or.inr (by omega))
  have HO3 := Lib.hid (HO2b.out.trans o3)
  clear o3
  have c52 := y5.cellAt 2 (by simp)
  have f52 := y5.frozen 2
  simp only [List.getElem_toArray, List.getElem_cons_zero, List.getElem_cons_succ] at c52
  replace y4 := y4.far (p := ⟨w1.heap.size, 2, none⟩) (by simp; omega) (.int .i64 (x3 - 200))
  replace y5 := (y5.set_ 2 (.int .i64 (x3 - 200))).cast (cs' := #[.int .i64 (day + x1), .string t2, .int .i64 (x3 - 200)]) rfl
  have HO3b := Lib.hid (HO3.out.far (p := ⟨w1.heap.size, 2, none⟩) (by simp; omega) (.int .i64 (x3 - 200)))
  go_wp2_with fail
  refine (pick_any g _ 24 _ (s3.set_ (by simp; omega) _) (by omega) ⟨by omega, by omega⟩).mono ?_
  rintro e w4 ⟨x4, rfl, hx4, s4, o4⟩
  clear hx4 s3 c52 f52
  have z4 := o4.size
  simp [World.setCell] at z4
  replace y4 := y4.only o4 (Or.inr (by omega))
  replace y5 := y5.only o4 (Or.inr (by omega))
  have HO4 := Lib.hid (HO3b.out.trans o4)
  clear o4

  by_cases h40 : x4 = 0
  · subst h40
    go_wp2_with fail
    refine (among_any g _ w4.heap.size 4 2 [-1, 0, 100000, 100001] _ (s4.alloc _) (by omega) (Blk.new w4 _ _) rfl (by omega) (by omega) (by omega)).mono ?_
    rintro e w5 ⟨z, rfl, hz, s5, o5⟩
    have hzi : I64 z := by simp only [List.mem_cons, List.not_mem_nil, or_false] at hz; unfold I64; omega
    clear hz
    have z5 := o5.size
    simp at z5
    replace y4 := (y4.alloc (.cells #[.int .i64 (-1), .int .i64 (0), .int .i64 (100000), .int .i64 (100001)] 2)).only o5 (Or.inr (by omega))
    replace y5 := (y5.alloc (.cells #[.int .i64 (-1), .int .i64 (0), .int .i64 (100000), .int .i64 (100001)] 2)).only o5 (Or.inr (by omega))
    have HO5 := Lib.hid ((HO4.out.alloc (.cells #[.int .i64 (-1), .int .i64 (0), .int .i64 (100000), .int .i64 (100001)] 2)).trans o5)
    clear o5
    have c5 := y5.cellAt 0 (by simp)
    have f5 := y5.frozen 0
    simp only [List.getElem_toArray, List.getElem_cons_zero, List.getElem_cons_succ] at c5
    obtain ⟨w6, hw6⟩ : ∃ y, w5.setCell ⟨w1.heap.size, 0, none⟩ (.int .i64 z) = y := ⟨_, rfl⟩
    have y46 : Blk w6 w.heap.size 41 #[.int .i64 0, .string ⟨#[]⟩, .int .i64 0] := by rw [← hw6]; exact y4.far (by simp; omega) _
    have y56 : Blk w6 w1.heap.size 41 #[.int .i64 z, .string t2, .int .i64 (x3 - 200)] := by rw [← hw6]; exact (y5.set_ 0 (.int .i64 z)).cast rfl
    have HO6 := Lib.hid (show Only g (g + 1) w w6 by rw [← hw6]; exact HO5.out.far (by simp; omega) _)
    have HS6 := Lib.hid (show Src g (k + 20) w6 by rw [← hw6]; exact (s5.set_ (by simp; omega) _).more (by omega))
    clear y4 y5 s5
    have d0 := y46.cellAt 0 (by simp)
    have d1 := y46.cellAt 1 (by simp)
    have d2 := y46.cellAt 2 (by simp)
    have e0 := y56.cellAt 0 (by simp)
    have e1 := y56.cellAt 1 (by simp)
    have e2 := y56.cellAt 2 (by simp)
    have d3 := y46.frozen 0
    have d4 := y46.frozen 1
    have d5 := y46.frozen 2
    simp only [List.getElem_toArray, List.getElem_cons_zero, List.getElem_cons_succ] at d0 d1 d2 e0 e1 e2
    go_wp2
    exact bodyPost_ret (v := .agg #[.int .i64 z, .string t2, .int .i64 (x3 - 200)]) (by simp [results, Tryd.results95, go_sem, d0, d1, d2]) rfl ⟨⟨z, t2, (x3 - 200)⟩, rfl, ⟨hzi, by simp only; omega, ⟨by simp only; omega, by simp only; omega⟩⟩, by unfold En.small; simp only; omega, ((HS6.out.set_ (by simp; omega) _).set_ (by simp; omega) _).set_ (by simp; omega) _, ((HO6.out.far (by simp) _).far (by simp) _).far (by simp) _⟩
  by_cases h41 : x4 = 1
  · subst h41
    go_wp2_with fail
    refine (text_any g _ w4.heap.size 3 9 [⟨#[]⟩, ⟨#[83, 101, 101, 110]⟩, ⟨#[97, 32, 98]⟩] _ (s4.alloc _) (by omega) (Blk.new w4 _ _) rfl (by omega) (by omega) (by omega)).mono ?_
    rintro e w5 ⟨z, rfl, hz, s5, o5⟩
    have hzs := small_texts.2 hz
    clear hz
    have z5 := o5.size
    simp at z5
    replace y4 := (y4.alloc (.cells #[.string ⟨#[]⟩, .string ⟨#[83, 101, 101, 110]⟩, .string ⟨#[97, 32, 98]⟩] 9)).only o5 (Or.inr (by omega))
    replace y5 := (y5.alloc (.cells #[.string ⟨#[]⟩, .string ⟨#[83, 101, 101, 110]⟩, .string ⟨#[97, 32, 98]⟩] 9)).only o5 (Or.inr (by omega))
    have HO5 := Lib.hid ((HO4.out.alloc (.cells #[.string ⟨#[]⟩, .string ⟨#[83, 101, 101, 110]⟩, .string ⟨#[97, 32, 98]⟩] 9)).trans o5)
    clear o5
    have c5 := y5.cellAt 1 (by simp)
    have f5 := y5.frozen 1
    simp only [List.getElem_toArray, List.getElem_cons_zero, List.getElem_cons_succ] at c5
    obtain ⟨w6, hw6⟩ : ∃ y, w5.setCell ⟨w1.heap.size, 1, none⟩ (.string z) = y := ⟨_, rfl⟩
    have y46 : Blk w6 w.heap.size 41 #[.int .i64 0, .string ⟨#[]⟩, .int .i64 0] := by rw [← hw6]; exact y4.far (by simp; omega) _
    have y56 : Blk w6 w1.heap.size 41 #[.int .i64 (day + x1), .string z, .int .i64 (x3 - 200)] := by rw [← hw6]; exact (y5.set_ 1 (.string z)).cast rfl
    have HO6 := Lib.hid (show Only g (g + 1) w w6 by rw [← hw6]; exact HO5.out.far (by simp; omega) _)
    have HS6 := Lib.hid (show Src g (k + 20) w6 by rw [← hw6]; exact (s5.set_ (by simp; omega) _).more (by omega))
    clear y4 y5 s5
    have d0 := y46.cellAt 0 (by simp)
    have d1 := y46.cellAt 1 (by simp)
    have d2 := y46.cellAt 2 (by simp)
    have e0 := y56.cellAt 0 (by simp)
    have e1 := y56.cellAt 1 (by simp)
    have e2 := y56.cellAt 2 (by simp)
    have d3 := y46.frozen 0
    have d4 := y46.frozen 1
    have d5 := y46.frozen 2
    simp only [List.getElem_toArray, List.getElem_cons_zero, List.getElem_cons_succ] at d0 d1 d2 e0 e1 e2
    go_wp2
    exact bodyPost_ret (v := .agg #[.int .i64 (day + x1), .string z, .int .i64 (x3 - 200)]) (by simp [results, Tryd.results95, go_sem, d0, d1, d2]) rfl ⟨⟨(day + x1), z, (x3 - 200)⟩, rfl, ⟨⟨by simp only; omega, by simp only; omega⟩, by simp only; omega, ⟨by simp only; omega, by simp only; omega⟩⟩, by unfold En.small; simp only; omega, ((HS6.out.set_ (by simp; omega) _).set_ (by simp; omega) _).set_ (by simp; omega) _, ((HO6.out.far (by simp) _).far (by simp) _).far (by simp) _⟩
  by_cases h42 : x4 = 2
  · subst h42
    go_wp2_with fail
    refine (among_any g _ w4.heap.size 5 2 [-1000001, -1000000, 1000000, 1000001, -9223372036854775808] _ (s4.alloc _) (by omega) (Blk.new w4 _ _) rfl (by omega) (by omega) (by omega)).mono ?_
    rintro e w5 ⟨z, rfl, hz, s5, o5⟩
    have hzi : I64 z := by simp only [List.mem_cons, List.not_mem_nil, or_false] at hz; unfold I64; omega
    clear hz
    have z5 := o5.size
    simp at z5
    replace y4 := (y4.alloc (.cells #[.int .i64 (-1000001), .int .i64 (-1000000), .int .i64 (1000000), .int .i64 (1000001), .int .i64 (-9223372036854775808)] 2)).only o5 (Or.inr (by omega))
    replace y5 := (y5.alloc (.cells #[.int .i64 (-1000001), .int .i64 (-1000000), .int .i64 (1000000), .int .i64 (1000001), .int .i64 (-9223372036854775808)] 2)).only o5 (Or.inr (by omega))
    have HO5 := Lib.hid ((HO4.out.alloc (.cells #[.int .i64 (-1000001), .int .i64 (-1000000), .int .i64 (1000000), .int .i64 (1000001), .int .i64 (-9223372036854775808)] 2)).trans o5)
    clear o5
    have c5 := y5.cellAt 2 (by simp)
    have f5 := y5.frozen 2
    simp only [List.getElem_toArray, List.getElem_cons_zero, List.getElem_cons_succ] at c5
    obtain ⟨w6, hw6⟩ : ∃ y, w5.setCell ⟨w1.heap.size, 2, none⟩ (.int .i64 z) = y := ⟨_, rfl⟩
    have y46 : Blk w6 w.heap.size 41 #[.int .i64 0, .string ⟨#[]⟩, .int .i64 0] := by rw [← hw6]; exact y4.far (by simp; omega) _
    have y56 : Blk w6 w1.heap.size 41 #[.int .i64 (day + x1), .string t2, .int .i64 z] := by rw [← hw6]; exact (y5.set_ 2 (.int .i64 z)).cast rfl
    have HO6 := Lib.hid (show Only g (g + 1) w w6 by rw [← hw6]; exact HO5.out.far (by simp; omega) _)
    have HS6 := Lib.hid (show Src g (k + 20) w6 by rw [← hw6]; exact (s5.set_ (by simp; omega) _).more (by omega))
    clear y4 y5 s5
    have d0 := y46.cellAt 0 (by simp)
    have d1 := y46.cellAt 1 (by simp)
    have d2 := y46.cellAt 2 (by simp)
    have e0 := y56.cellAt 0 (by simp)
    have e1 := y56.cellAt 1 (by simp)
    have e2 := y56.cellAt 2 (by simp)
    have d3 := y46.frozen 0
    have d4 := y46.frozen 1
    have d5 := y46.frozen 2
    simp only [List.getElem_toArray, List.getElem_cons_zero, List.getElem_cons_succ] at d0 d1 d2 e0 e1 e2
    go_wp2
    exact bodyPost_ret (v := .agg #[.int .i64 (day + x1), .string t2, .int .i64 z]) (by simp [results, Tryd.results95, go_sem, d0, d1, d2]) rfl ⟨⟨(day + x1), t2, z⟩, rfl, ⟨⟨by simp only; omega, by simp only; omega⟩, by simp only; omega, hzi⟩, by unfold En.small; simp only; omega, ((HS6.out.set_ (by simp; omega) _).set_ (by simp; omega) _).set_ (by simp; omega) _, ((HO6.out.far (by simp) _).far (by simp) _).far (by simp) _⟩
  · have h40' : (x4 == 0) = false := by rw [beq_eq_false_iff_ne]; exact h40
    have h41' : (x4 == 1) = false := by rw [beq_eq_false_iff_ne]; exact h41
    have h42' : (x4 == 2) = false := by rw [beq_eq_false_iff_ne]; exact h42
    have y46 := y4
    have y56 := y5
    have HO6 := HO4
    have HS6 := Lib.hid (s4.more (show _ ≤ k + 20 by omega))
    clear y4 y5
    have d0 := y46.cellAt 0 (by simp)
    have d1 := y46.cellAt 1 (by simp)
    have d2 := y46.cellAt 2 (by simp)
    have e0 := y56.cellAt 0 (by simp)
    have e1 := y56.cellAt 1 (by simp)
    have e2 := y56.cellAt 2 (by simp)
    have d3 := y46.frozen 0
    have d4 := y46.frozen 1
    have d5 := y46.frozen 2
    simp only [List.getElem_toArray, List.getElem_cons_zero, List.getElem_cons_succ] at d0 d1 d2 e0 e1 e2
    go_wp2
    exact bodyPost_ret (v := .agg #[.int .i64 (day + x1), .string t2, .int .i64 (x3 - 200)]) (by simp [results, Tryd.results95, go_sem, d0, d1, d2]) rfl ⟨⟨(day + x1), t2, (x3 - 200)⟩, rfl, ⟨⟨by simp only; omega, by simp only; omega⟩, by simp only; omega, ⟨by simp only; omega, by simp only; omega⟩⟩, by unfold En.small; simp only; omega, ((HS6.out.set_ (by simp; omega) _).set_ (by simp; omega) _).set_ (by simp; omega) _, ((HO6.out.far (by simp) _).far (by simp) _).far (by simp) _⟩

/-- What a draw of entries in order leaves. -/
def EnsDrawn (w : World) (e : Ending) (w' : World) : Prop :=
  ∃ (l : List En) (A : Option Addr) (d : Nat), e = .returned (.slice A l.length d) ∧ l.length ≤ 7 ∧ (∀ x ∈ l, okEn x = true) ∧ daysUp l = true ∧ Sl w' w.heap.size w'.heap.size 41 3 A l.length d (ens l) ∧ Below w.heap.size w w'
end Go.Proofs.YtjmlcobbjpmjpaaDoor
