/- A block beside those that a call has turned. -/
import Derived.Test.YtnlghcpidlpfkaaMem
set_option linter.unusedVariables false
namespace Go.Proofs.Ytnlghcpidlpfkaa
open Go.RowKit
theorem Blk.apart {w w' : World} {g lo hi : Nat} {t : TypeId} {cs : Array Value} (h : Blk w g t cs) (ho : Only lo hi w w') (hd : g < lo ∨ hi ≤ g) : Blk w' g t cs := (ho.block g h.lt hd).trans h
end Go.Proofs.Ytnlghcpidlpfkaa
