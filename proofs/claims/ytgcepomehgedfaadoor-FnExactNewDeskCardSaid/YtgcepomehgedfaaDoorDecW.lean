/- The reference's decimal form of a number. -/
import Derived.Test.YtgcepomehgedfaaDoorApp
import Derived.Test.YtgcepomehgedfaaDoorDec
import Derived.Test.YtgcepomehgedfaaDoorSplit
import Derived.Test.YtgcepomehgedfaaDoorProg
import Derived.Laws.IdiomStrings
import Derived.IntWalk
set_option linter.unusedVariables false
set_option linter.unusedSimpArgs false
namespace Go.Proofs.YtgcepomehgedfaaDoor
open Go.RowKit Go.Lib

theorem info_u8 : (Tryd.prog.info? 5).map (fun i => (i.zero, i.size, i.bytes)) = some (some (.int .u8 0), 1, 1) := by kernel_rfl
def bytesV (l : List UInt8) : List Value := l.map fun c => .int .u8 (c.toNat : Int)
theorem bytesV_len (l : List UInt8) : (bytesV l).length = l.length := by simp [bytesV]
theorem bytesV_one (l : List UInt8) : ∀ u ∈ bytesV l, u.oneCell' = true := by
  intro u hu
  simp only [bytesV, List.mem_map] at hu
  obtain ⟨c, _, rfl⟩ := hu
  rfl
theorem asBytes_app (a b : List UInt8) : asBytes a ++ asBytes b = asBytes (a ++ b) := by
  apply ByteArray.ext
  simp [asBytes, ByteArray.data_append]
theorem dig_cast {d : Nat} (h : d < 10) : ((UInt8.ofNat (48 + d)).toNat : Int) = 48 + (d : Int) := by
  have : (UInt8.ofNat (48 + d)).toNat = 48 + d := by rw [UInt8.toNat_ofNat']; omega
  rw [this]; omega

end Go.Proofs.YtgcepomehgedfaaDoor
