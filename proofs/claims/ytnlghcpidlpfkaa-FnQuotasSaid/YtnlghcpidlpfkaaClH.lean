/- Clients: the code of a name, and the client of that name. -/
import Derived.Test.YtnlghcpidlpfkaaClG
set_option linter.unusedVariables false
namespace Go.Proofs.Ytnlghcpidlpfkaa
open Go.RowKit

theorem clientPlace_any (A : Option Addr) (n c : Nat) (l : List Cl) (s : ByteArray) (B : Nat) (w : World) (h : Reads w B 5 A n (cls l)) (hB : B ≤ w.heap.size) (hn : n ≤ 1048576) (hok : okCls l = true) :
    Calls Try.prog 102 #[.slice A n c, .string s] w fun e w' => ∃ i : Nat, PlaceAt l s i ∧ e = .returned (.tuple #[.int .i64 i, .bool (foundAt l s i)]) ∧ Below w.heap.size w w' := by
  go_enter Try.func102, Try.ntmps102
  go_wp2_with fail
  refine (binSearch_any A n c l s B _ h hB hn hok).mono ?_
  rintro e w1 ⟨i, hp, rfl, b1⟩
  go_wp2
  go_ret2
  exact ⟨i, hp, rfl, b1⟩

/-- Where a name stands, and the code of that: 1 the list, 2 what else is asked, 3 no such name. -/
def namedF (l : List Cl) (s : ByteArray) (b : Bool) : Int × Int := if okCls l = true then (if b = true then (if placeOf l s < 0 then (0, 3) else (placeOf l s, 0)) else (0, 2)) else (0, 1)
theorem namedF_bad {l : List Cl} {s : ByteArray} {b : Bool} (h : okCls l = false) : namedF l s b = (0, 1) := by simp only [namedF, h, Bool.false_eq_true, if_false]
theorem namedF_else {l : List Cl} {s : ByteArray} (h : okCls l = true) : namedF l s false = (0, 2) := by simp only [namedF, h, Bool.false_eq_true, if_false, if_true]
theorem namedF_none {l : List Cl} {s : ByteArray} (h : okCls l = true) (h2 : placeOf l s < 0) : namedF l s true = (0, 3) := by simp only [namedF, h, h2, if_true]
theorem namedF_some {l : List Cl} {s : ByteArray} (h : okCls l = true) (h2 : ¬ placeOf l s < 0) : namedF l s true = (placeOf l s, 0) := by simp only [namedF, h, h2, if_true, if_false]

theorem clientCode_any (A : Option Addr) (n c : Nat) (l : List Cl) (s : ByteArray) (q : Bool) (B : Nat) (w : World) (h : Reads w B 5 A n (cls l)) (hB : B ≤ w.heap.size) (hn : n ≤ 1048576) (hsm : ∀ x ∈ l, x.small) (hgd : ∀ x ∈ l, x.good) :
    Calls Try.prog 173 #[.slice A n c, .string s, .bool q] w fun e w' => e = .returned (.tuple #[.int .i64 (namedF l s q).1, .int .i64 (namedF l s q).2]) ∧ Below w.heap.size w w' := by
  rcases h1 : okCls l with _ | _
  · have HO := Lib.hid (namedF_bad (s := s) (b := q) h1)
    go_enter Try.func173, Try.ntmps173
    go_wp2_with fail
    refine (implValidClients_any A n c l B _ h hB hn hsm hgd).mono ?_
    rintro e w1 ⟨rfl, b1⟩
    go_wp2
    go_ret2
    rw [HO.out]
    exact ⟨rfl, b1⟩
  · rcases q with _ | _
    · have HO := Lib.hid (namedF_else (s := s) h1)
      go_enter Try.func173, Try.ntmps173
      go_wp2_with fail
      refine (implValidClients_any A n c l B _ h hB hn hsm hgd).mono ?_
      rintro e w1 ⟨rfl, b1⟩
      go_wp2
      go_ret2
      rw [HO.out]
      exact ⟨rfl, b1⟩
    · have HN := Lib.hid (namedF_none (s := s) h1)
      have HS := Lib.hid (namedF_some (s := s) h1)
      go_enter Try.func173, Try.ntmps173
      go_wp2_with fail
      refine (implValidClients_any A n c l B _ h hB hn hsm hgd).mono ?_
      rintro e w1 ⟨rfl, b1⟩
      have z1 := b1.size
      go_wp2_with fail
      refine (clientPlace_any A n c l s B _ (h.on hB b1) (by omega) hn h1).mono ?_
      rintro e w2 ⟨i, hp, rfl, b2⟩
      have HF := Lib.hid (bnext b1 b2 (Nat.le_refl _))
      rcases hf : foundAt l s i with _ | _
      · have hq := placeAt_lost h1 hp hf
        have HR := Lib.hid (HN.out (by omega))
        clear hq hp b1 b2
        go_wp2
        go_ret2
        rw [HR.out]
        exact ⟨rfl, HF.out⟩
      · have hq := placeAt_found hp hf
        have HR := Lib.hid (HS.out (by omega))
        have HQ := Lib.hid hq
        clear hq hp b1 b2
        go_wp2
        go_ret2
        rw [HR.out, HQ.out]
        exact ⟨rfl, HF.out⟩

def clientF (l : List Cl) (s : ByteArray) : Cl × Int := if (namedF l s true).2 = 0 then ((l[(namedF l s true).1.toNat]?).getD ⟨⟨#[]⟩, 0, 0, 0, 0⟩, 0) else (⟨⟨#[]⟩, 0, 0, 0, 0⟩, (namedF l s true).2)
theorem clientF_bad {l : List Cl} {s : ByteArray} (h : (namedF l s true).2 ≠ 0) : clientF l s = (⟨⟨#[]⟩, 0, 0, 0, 0⟩, (namedF l s true).2) := by simp only [clientF, h, if_false]
theorem clientF_ok {l : List Cl} {s : ByteArray} {i : Nat} {x : Cl} (h : namedF l s true = ((i : Int), 0)) (hx : l[i]? = some x) : clientF l s = (x, 0) := by simp [clientF, h, hx]
theorem named_cases {l : List Cl} {s : ByteArray} (h : (namedF l s true).2 = 0) : okCls l = true ∧ ∃ (i : Nat) (x : Cl), namedF l s true = ((i : Int), 0) ∧ l[i]? = some x := by
  rcases h1 : okCls l with _ | _
  · rw [namedF_bad h1] at h; cases h
  · by_cases h2 : placeOf l s < 0
    · rw [namedF_none h1 h2] at h; cases h
    · obtain ⟨i, x, hi, hx⟩ := placeOf_range h2
      exact ⟨rfl, i, x, by rw [namedF_some h1 h2, hi], hx⟩
end Go.Proofs.Ytnlghcpidlpfkaa
