/- Clients: a contract extended: the plain law. -/
import Derived.Test.YtnlghcpidlpfkaaClH
import Derived.Test.YtnlghcpidlpfkaaApp
set_option linter.unusedVariables false
namespace Go.Proofs.Ytnlghcpidlpfkaa
open Go.RowKit

theorem info_cl : (Try.prog.info? 31).map (fun i => (i.zero, i.size, i.bytes)) = some (some (.agg #[.string ⟨#[]⟩, .int .i64 0, .int .i64 0, .int .i64 0, .int .i64 0]), 5, 48) := by kernel_rfl
theorem cls_one (l : List Cl) : ∀ u ∈ cls l, u.oneCell' = true := by
  intro u hu
  simp only [cls, List.mem_flatMap, cellsCl, List.mem_cons, List.not_mem_nil, or_false] at hu
  obtain ⟨x, _, h⟩ := hu
  rcases h with rfl | rfl | rfl | rfl | rfl <;> rfl
theorem cls_set3 : ∀ {l : List Cl} {i : Nat} {x : Cl} (t : Int), l[i]? = some x → cls (l.set i {x with to_ := t}) = (cls l).set (i * 5 + 3) (.int .i64 t)
  | [], i, x, t, h => by simp at h
  | z :: r, 0, x, t, h => by
    simp only [List.getElem?_cons_zero, Option.some.injEq] at h
    subst h
    rfl
  | z :: r, i + 1, x, t, h => by
    simp only [List.getElem?_cons_succ] at h
    have ih := cls_set3 (l := r) t h
    rw [List.set_cons_succ, show (i + 1) * 5 + 3 = (i * 5 + 3) + 1 + 1 + 1 + 1 + 1 from by omega]
    show cellsCl z ++ cls (r.set i _) = (cellsCl z ++ cls r).set _ _
    rw [ih]
    rfl
theorem set_same {α : Type} {xs : List α} {j : Nat} {v : α} (h : xs[j]? = some v) : xs.set j v = xs := by
  obtain ⟨hj, rfl⟩ := List.getElem?_eq_some_iff.1 h
  exact List.set_getElem_self hj
def extF (l : List Cl) (s : ByteArray) (d : Int) : List Cl × Int :=
  if (namedF l s (inR d 1 20000)).2 = 0 then (match l[(namedF l s (inR d 1 20000)).1.toNat]? with
    | none => ([], 0)
    | some x => if 20000 < x.to_ + d then ([], 5) else (l.set (namedF l s (inR d 1 20000)).1.toNat {x with to_ := x.to_ + d}, 0)) else ([], (namedF l s (inR d 1 20000)).2)
theorem extF_bad {l : List Cl} {s : ByteArray} {d : Int} {q : Bool} (hq : inR d 1 20000 = q) (h : (namedF l s q).2 ≠ 0) : extF l s d = ([], (namedF l s q).2) := by subst hq; simp only [extF, h, if_false]
theorem extF_far {l : List Cl} {s : ByteArray} {d : Int} {i : Nat} {x : Cl} (hq : inR d 1 20000 = true) (h : namedF l s true = ((i : Int), 0)) (hx : l[i]? = some x) (ha : 20000 < x.to_ + d) : extF l s d = ([], 5) := by simp [extF, hq, h, hx, ha]
theorem extF_ok {l : List Cl} {s : ByteArray} {d : Int} {i : Nat} {x : Cl} (hq : inR d 1 20000 = true) (h : namedF l s true = ((i : Int), 0)) (hx : l[i]? = some x) (ha : ¬ 20000 < x.to_ + d) : extF l s d = (l.set i {x with to_ := x.to_ + d}, 0) := by
  have ha' : x.to_ + d ≤ 20000 := by omega
  simp [extF, hq, h, hx, ha']
theorem cntExtendContract_len {l : List Cl} {s : ByteArray} {d : Int} {m : Nat} (h : (cls (extF l s d).1).length = m * 5) : m ≤ 1048576 := by
  rw [cls_length] at h
  have h2 : (extF l s d).1.length ≤ 30 := by
    by_cases hz : (namedF l s (inR d 1 20000)).2 = 0
    · have hok : okCls l = true := by
        rcases h1 : okCls l with _ | _
        · rw [namedF_bad h1] at hz; cases hz
        · rfl
      have := okCls_len hok
      unfold extF
      rw [if_pos hz]
      split
      · simp
      · split
        · simp
        · simp; omega
    · rw [extF_bad rfl hz]; simp
  omega
end Go.Proofs.Ytnlghcpidlpfkaa
