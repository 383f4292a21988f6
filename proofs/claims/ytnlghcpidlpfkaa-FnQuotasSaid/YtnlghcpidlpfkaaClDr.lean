/- Clients that are drawn. -/
import Derived.Test.YtnlghcpidlpfkaaDrw
import Derived.Test.YtnlghcpidlpfkaaSCl
import Derived.Test.YtnlghcpidlpfkaaOneF
import Derived.Test.YtnlghcpidlpfkaaClN
import Derived.Deep.RegionHeld3
import Derived.Deep.DeepCutAuto
import Derived.Laws.BytesArg
import Derived.IntWalk
set_option linter.unusedVariables false
set_option linter.unusedSimpArgs false
namespace Go.Proofs.Ytnlghcpidlpfkaa
open Go.RowKit

theorem Blk.only2 {lo hi g : Nat} {t : TypeId} {cs : Array Value} {w w' : World} (h : Blk w g t cs) (ho : Only lo hi w w') (hd : g < lo ∨ hi ≤ g) : Blk w' g t cs := (ho.block g h.lt hd).trans h
theorem Blk.cast2 {g : Nat} {t : TypeId} {cs cs' : Array Value} {w : World} (h : Blk w g t cs) (e : cs = cs') : Blk w g t cs' := e ▸ h
theorem cls_snoc2 (l : List Cl) (x : Cl) : cls l ++ cellsCl x = cls (l ++ [x]) := by simp [cls]
theorem cl_one2 (x : Cl) : ∀ u ∈ cellsCl x, u.oneCell' = true := by
  intro u hu
  simp only [cellsCl, List.mem_cons, List.not_mem_nil, or_false] at hu
  rcases hu with h | h | h | h | h <;> subst h <;> rfl
theorem good_cl {nm : ByteArray} {a b c d : Int} (hn : nm.size ≤ 1000) (ha : I64 a) (hb : I64 b) (hc : I64 c) (hd : I64 d) : (⟨nm, a, b, c, d⟩ : Cl).good ∧ (⟨nm, a, b, c, d⟩ : Cl).small := ⟨⟨by simp only; omega, ha, hb, hc, hd⟩, by unfold Cl.small; simp only; omega⟩
/-- What a draw of a client leaves. -/
def ClDrawn (g k : Nat) (w : World) (e : Ending) (w' : World) : Prop :=
  ∃ x : Cl, e = .returned (.agg #[.string x.name, .int .i64 x.station, .int .i64 x.from_, .int .i64 x.to_, .int .i64 x.quota]) ∧ x.good ∧ x.small ∧ Src g (k + 8) w' ∧ Only g (g + 1) w w'
set_option maxHeartbeats 4000000 in
set_option maxRecDepth 100000 in
theorem l24New_any (g k : Nat) (nm : ByteArray) (w : World) (h : Src g k w) (hk : k ≤ 10000000000) (hnm : nm.size ≤ 1000) :
    Calls Try.prog 218 #[.pointer (some ⟨g, 0, none⟩), .string nm] w fun e w' => ClDrawn g k w e w' := by
  have hgw := h.lt
  have y4 := Blk.new w 31 #[.string ⟨#[]⟩, .int .i64 0, .int .i64 0, .int .i64 0, .int .i64 0]
  go_enter Try.func218, Try.ntmps218
  go_wp2_with fail
  refine (pick_any g k 4 _ (h.alloc _) (by omega) ⟨by omega, by omega⟩).mono ?_
  rintro e w1 ⟨x1, rfl, hx1, s1, o1⟩
  have hx1a := hx1.lt (by omega)
  have hx1b := hx1.1
  have z1 := o1.size
  simp at z1
  clear hx1 h
  replace y4 := y4.only2 o1 (Or.inr (by omega))
  have HO1 := Lib.hid (((Only.refl g (g + 1) w).alloc _).trans o1)
  clear o1
  go_wp2_with fail
  refine (pick_any g _ 60 _ s1 (by omega) ⟨by omega, by omega⟩).mono ?_
  rintro e w2 ⟨x2, rfl, hx2, s2, o2⟩
  have hx2a := hx2.lt (by omega)
  have hx2b := hx2.1
  have z2 := o2.size
  clear hx2 s1
  replace y4 := y4.only2 o2 (Or.inr (by omega))
  have HO2 := Lib.hid (HO1.out.trans o2)
  clear o2
  have y5 := Blk.new w2 31 #[.string nm, .int .i64 x1, .int .i64 x2, .int .i64 0, .int .i64 0]
  have s2a := s2.alloc (.cells #[.string nm, .int .i64 x1, .int .i64 x2, .int .i64 0, .int .i64 0] 31)
  replace y4 := y4.alloc (.cells #[.string nm, .int .i64 x1, .int .i64 x2, .int .i64 0, .int .i64 0] 31)
  have HO3 := Lib.hid (HO2.out.alloc (.cells #[.string nm, .int .i64 x1, .int .i64 x2, .int .i64 0, .int .i64 0] 31))
  have s2d : Src g (k + 2 + 2) (w2.alloc (.cells #[.string nm, .int .i64 x1, .int .i64 x2, .int .i64 0, .int .i64 0] 31)).drew := s2a.keep fun _ _ => rfl
  clear s2 s2a
  have hwa : IntKind.i64.wrap (x2 + 1) = x2 + 1 := by rw [IntKind.wrap_i64]; omega
  go_wp2_with fail

  refine wp_region_held_drew (S := (fun W => W.cell? ⟨w2.heap.size, 2, none⟩ = some (.int .i64 x2))) (by kernel_rfl) ?_ (fun hHeld => ?_)
  · exact y5.cellAt 2 (by simp)
  refine wpAnyH_take (i := 0) (v := ?_) rfl (by kernel_rfl) (by kernel_rfl) (by kernel_rfl) (fun _ _ _ h => h) (Or.inl ⟨by kernel_rfl, ?_⟩) (by assumption) ?_
  rotate_left 1
  · intro w hSw; (try dsimp only at hSw); go_simp; try with_reducible rfl
  try simp only [Act.put, List.getElem_toArray, List.getElem_cons_succ, List.getElem_cons_zero, List.setIfInBounds_toArray, List.set_cons_zero, List.set_cons_succ]
  refine wpAnyH_take (i := 1) (v := ?_) rfl (by kernel_rfl) (by kernel_rfl) (by kernel_rfl) (fun _ _ _ h => h) (Or.inl ⟨by kernel_rfl, ?_⟩) (by assumption) ?_
  rotate_left 1
  · intro w hSw; (try dsimp only at hSw);  go_simp; try with_reducible rfl
  try simp only [Act.put, List.getElem_toArray, List.getElem_cons_succ, List.getElem_cons_zero, List.setIfInBounds_toArray, List.set_cons_zero, List.set_cons_succ]
  refine wpAnyH_take (i := 2) (v := ?_) rfl (by kernel_rfl) (by kernel_rfl) (by kernel_rfl) (fun _ _ _ h => h) (Or.inl ⟨by kernel_rfl, ?_⟩) (by assumption) ?_
  rotate_left 1
  · intro w hSw; (try dsimp only at hSw); go_simp; try with_reducible rfl
  try simp only [Act.put, List.getElem_toArray, List.getElem_cons_succ, List.getElem_cons_zero, List.setIfInBounds_toArray, List.set_cons_zero, List.set_cons_succ]
  refine wpAnyH_take (i := 3) (v := ?_) rfl (by kernel_rfl) (by kernel_rfl) (by kernel_rfl) (fun _ _ _ h => h) (Or.inl ⟨by kernel_rfl, ?_⟩) (by assumption) ?_
  rotate_left 1
  · intro w hSw; (try dsimp only at hSw); go_simp; try with_reducible rfl
  try simp only [Act.put, List.getElem_toArray, List.getElem_cons_succ, List.getElem_cons_zero, List.setIfInBounds_toArray, List.set_cons_zero, List.set_cons_succ]
  refine wpAnyH_ready (rs := [4]) (by kernel_rfl) (by simp) ?_
  refine AllReadyH.cons rfl (fun K hK => ?_) AllReadyH.nil
  go_simp
  go_at_call 156
  refine (pick_any g _ 60 _ s2d (by omega) ⟨by omega, by omega⟩).mono ?_
  rintro e w3 ⟨x3, rfl, hx3, s3, o3⟩
  have hx3a := hx3.lt (by omega)
  have hx3b := hx3.1
  clear hx3
  have z3 := o3.size
  simp at z3
  have y53 : Blk w3 w2.heap.size 31 #[.string nm, .int .i64 x1, .int .i64 x2, .int .i64 0, .int .i64 0] := (o3.block _ (by simp) (by omega)).trans y5
  have y43 : Blk w3 w.heap.size 31 #[.string ⟨#[]⟩, .int .i64 0, .int .i64 0, .int .i64 0, .int .i64 0] := (o3.block _ (by simp; omega) (by omega)).trans y4
  have HO4 := Lib.hid (show Only g (g + 1) w w3 from HO3.out.trans ⟨o3.os, o3.tape, o3.output, o3.size, o3.block⟩)
  clear o3 y4 y5 s2d
  have hwb : IntKind.i64.wrap (x2 + 1 + x3) = x2 + 1 + x3 := by rw [IntKind.wrap_i64]; omega
  go_wp2_with fail
  refine hK.out _ _ ?_ (fun hNew => ?_)
  · exact y53.cellAt 2 (by simp)
  clear hK K hHeld
  have hHeld := hNew
  clear hNew
  try simp only [Act.put, List.getElem_toArray, List.getElem_cons_succ, List.getElem_cons_zero, List.setIfInBounds_toArray, List.set_cons_zero, List.set_cons_succ]
  refine wpAnyH_take (i := 5) (v := ?_) rfl (by kernel_rfl) (by kernel_rfl) (by kernel_rfl) (fun _ _ _ h => h) (Or.inl ⟨by kernel_rfl, ?_⟩) (by assumption) ?_
  rotate_left 1
  · intro w hSw; (try dsimp only at hSw); go_simp; try with_reducible rfl
  try simp only [Act.put, List.getElem_toArray, List.getElem_cons_succ, List.getElem_cons_zero, List.setIfInBounds_toArray, List.set_cons_zero, List.set_cons_succ]
  refine wpAnyH_take (i := 6) (v := ?_) rfl (by kernel_rfl) (by kernel_rfl) (by kernel_rfl) (fun _ _ _ h => h) (Or.inl ⟨by kernel_rfl, ?_⟩) (by assumption) ?_
  rotate_left 1
  · intro w hSw; (try dsimp only at hSw); go_simp; try with_reducible rfl
  try simp only [Act.put, List.getElem_toArray, List.getElem_cons_succ, List.getElem_cons_zero, List.setIfInBounds_toArray, List.set_cons_zero, List.set_cons_succ]
  refine wpAnyH_ready (rs := [7]) (by kernel_rfl) (by simp) ?_
  refine AllReadyH.cons rfl (fun K hK => ?_) AllReadyH.nil
  have c93 := y53.cellAt 3 (by simp)
  have f93 := y53.frozen 3
  simp only [List.getElem_toArray, List.getElem_cons_zero, List.getElem_cons_succ] at c93
  go_simp
  clear c93 f93
  refine hK.out _ _ ?_ (fun hNew => ?_)
  · have := (y53.set_ 3 (.int .i64 (x2 + 1 + x3))).cellAt 2 (by simp); simpa using this
  clear hK K hHeld
  have hHeld := hNew
  clear hNew
  try simp only [Act.put, List.getElem_toArray, List.getElem_cons_succ, List.getElem_cons_zero, List.setIfInBounds_toArray, List.set_cons_zero, List.set_cons_succ]
  refine wpAnyH_done (by kernel_rfl) ?_ _
  obtain ⟨w4, hw4⟩ : ∃ y, w3.setCell ⟨w2.heap.size, 3, none⟩ (.int .i64 (x2 + 1 + x3)) = y := ⟨_, rfl⟩
  rw [hw4]
  have y54 : Blk w4 w2.heap.size 31 #[.string nm, .int .i64 x1, .int .i64 x2, .int .i64 (x2 + 1 + x3), .int .i64 0] := by rw [← hw4]; exact (y53.set_ 3 (.int .i64 (x2 + 1 + x3))).cast2 rfl
  have y44 : Blk w4 w.heap.size 31 #[.string ⟨#[]⟩, .int .i64 0, .int .i64 0, .int .i64 0, .int .i64 0] := by rw [← hw4]; exact y43.far (by simp; omega) _
  have HO5 := Lib.hid (show Only g (g + 1) w w4 by rw [← hw4]; exact HO4.out.far (by simp; omega) _)
  have s4 : Src g (k + 6) w4 := by rw [← hw4]; exact (s3.set_ (by simp; omega) _).more (by omega)
  have z4 : w4.heap.size = w3.heap.size := by rw [← hw4]; simp [World.setCell]
  clear hHeld hw4 y53 y43 s3
  go_wp2_with fail
  refine (pick_any g _ 30 _ s4 (by omega) ⟨by omega, by omega⟩).mono ?_
  rintro e w5 ⟨x5, rfl, hx5, s5, o5⟩
  have hx5a := hx5.lt (by omega)
  have hx5b := hx5.1
  have z5 := o5.size
  clear hx5 s4
  replace y54 := y54.only2 o5 (Or.inr (by omega))
  replace y44 := y44.only2 o5 (Or.inr (by omega))
  have HO6 := Lib.hid (HO5.out.trans o5)
  clear o5
  have c5 := y54.cellAt 4 (by simp)
  have f5 := y54.frozen 4
  simp only [List.getElem_toArray, List.getElem_cons_zero, List.getElem_cons_succ] at c5
  obtain ⟨w6, hw6⟩ : ∃ y, w5.setCell ⟨w2.heap.size, 4, none⟩ (.int .i64 x5) = y := ⟨_, rfl⟩
  have y46 : Blk w6 w.heap.size 31 #[.string ⟨#[]⟩, .int .i64 0, .int .i64 0, .int .i64 0, .int .i64 0] := by rw [← hw6]; exact y44.far (by simp; omega) _
  have y56 : Blk w6 w2.heap.size 31 #[.string nm, .int .i64 x1, .int .i64 x2, .int .i64 (x2 + 1 + x3), .int .i64 x5] := by rw [← hw6]; exact (y54.set_ 4 (.int .i64 x5)).cast2 rfl
  have HO7 := Lib.hid (show Only g (g + 1) w w6 by rw [← hw6]; exact HO6.out.far (by simp; omega) _)
  have HS7 := Lib.hid (show Src g (k + 8) w6 by rw [← hw6]; exact (s5.set_ (by simp; omega) _).more (by omega))
  clear y44 y54 s5
  have d0 := y46.cellAt 0 (by simp)
  have d1 := y46.cellAt 1 (by simp)
  have d2 := y46.cellAt 2 (by simp)
  have d3 := y46.cellAt 3 (by simp)
  have d4 := y46.cellAt 4 (by simp)
  have e0 := y56.cellAt 0 (by simp)
  have e1 := y56.cellAt 1 (by simp)
  have e2 := y56.cellAt 2 (by simp)
  have e3 := y56.cellAt 3 (by simp)
  have e4 := y56.cellAt 4 (by simp)
  have f0 := y46.frozen 0
  have f1 := y46.frozen 1
  have f2 := y46.frozen 2
  have f3 := y46.frozen 3
  have f4 := y46.frozen 4
  simp only [List.getElem_toArray, List.getElem_cons_zero, List.getElem_cons_succ] at d0 d1 d2 d3 d4 e0 e1 e2 e3 e4
  go_wp2
  exact bodyPost_ret (v := .agg #[.string nm, .int .i64 x1, .int .i64 x2, .int .i64 (x2 + 1 + x3), .int .i64 x5]) (by simp [results, Try.results218, go_sem, d0, d1, d2, d3, d4]) rfl ⟨⟨nm, x1, x2, x2 + 1 + x3, x5⟩, rfl, good_cl (by omega) ⟨by omega, by omega⟩ ⟨by omega, by omega⟩ ⟨by omega, by omega⟩ ⟨by omega, by omega⟩ |>.1, good_cl (by omega) ⟨by omega, by omega⟩ ⟨by omega, by omega⟩ ⟨by omega, by omega⟩ ⟨by omega, by omega⟩ |>.2, ((((HS7.out.set_ (by simp; omega) _).set_ (by simp; omega) _).set_ (by simp; omega) _).set_ (by simp; omega) _).set_ (by simp; omega) _, ((((HO7.out.far (by simp) _).far (by simp) _).far (by simp) _).far (by simp) _).far (by simp) _⟩

end Go.Proofs.Ytnlghcpidlpfkaa
