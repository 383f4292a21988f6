/- The desk: how it comes in, its size, the law's copy and comparison. -/
import Derived.Test.YtgcepomehgedfaaDoorDkN
set_option linter.unusedVariables false
namespace Go.Proofs.YtgcepomehgedfaaDoor
open Go.RowKit Go.ChangeShapes Go.WideShapes Go.Deep

structure Dk where
  net : Nt
  times : List Int
  runs : List Rn
  log : ByteArray
/-- Where the desk's lists lie. -/
structure DkH where
  A1 : Option Addr
  n1 : Nat
  c1 : Nat
  A2 : Option Addr
  n2 : Nat
  c2 : Nat
  A3 : Option Addr
  n3 : Nat
  c3 : Nat
def dkv (h : DkH) (d : Dk) : Value := .agg #[.int .i64 d.net.sta, .slice h.A1 h.n1 h.c1, .slice h.A2 h.n2 h.c2, .slice h.A3 h.n3 h.c3, .string d.log]
structure DkR (w : World) (B : Nat) (h : DkH) (d : Dk) : Prop where
  tubes : Reads w B 3 h.A1 h.n1 (tbs d.net.tubes)
  times : Reads w B 1 h.A2 h.n2 (ints d.times)
  runs : RunsR w B h.A3 h.n3 d.runs
structure DkH.ok (h : DkH) : Prop where
  n1 : h.n1 ≤ 9223372036854775807
  n2 : h.n2 ≤ 9223372036854775807
  n3 : h.n3 ≤ 9223372036854775807
structure DkS (h : DkH) (d : Dk) : Prop where
  n1 : h.n1 ≤ 1048576
  n2 : h.n2 ≤ 1048576
  n3 : h.n3 ≤ 1048576
  runs : SmallR d.runs
  log : d.log.size ≤ 1048576
def sameDk (x y : Dk) : Bool := sameNt x.net y.net && (sameL sameI x.times y.times && (sameL sameRn x.runs y.runs && x.log.toList == y.log.toList))
theorem sameDk_refl (x : Dk) : sameDk x x = true := by simp [sameDk, sameNt_refl, sameL_refl sameI_refl, sameL_refl sameRn_refl]
theorem DkR.on {w w' : World} {B : Nat} {h : DkH} {d : Dk} (hr : DkR w B h d) (hB : B ≤ w.heap.size) (hb : Below w.heap.size w w') : DkR w' B h d := ⟨hr.tubes.on hB hb, hr.times.on hB hb, hr.runs.on hB hb⟩
theorem DkR.more {w : World} {B B' : Nat} {h : DkH} {d : Dk} (hr : DkR w B h d) (hB : B ≤ B') : DkR w B' h d := ⟨hr.tubes.more hB, hr.times.more hB, hr.runs.more hB⟩

theorem len5 {α : Type} : ∀ {l : List α}, l.length = 5 → ∃ a b c d e, l = [a, b, c, d, e]
  | [a, b, c, d, e], _ => ⟨a, b, c, d, e, rfl⟩
section
variable {H : Type} {enc : TypeId × Value → H} {w : World}
end
end Go.Proofs.YtgcepomehgedfaaDoor
