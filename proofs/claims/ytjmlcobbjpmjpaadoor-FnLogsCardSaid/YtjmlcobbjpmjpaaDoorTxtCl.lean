/- Clients as texts, both sides. -/
import Derived.Test.YtjmlcobbjpmjpaaDoorTab
import Derived.Test.YtjmlcobbjpmjpaaDoorClA
import Derived.Deep.RegionHeld3
set_option linter.unusedVariables false
set_option linter.unusedSimpArgs false
namespace Go.Proofs.YtjmlcobbjpmjpaaDoor
open Go.RowKit Go.Lib

def textCl (x : Cl) : ByteArray := if okCl x = true then x.name ++ ⟨#[64]⟩ ++ asBytes (itoa x.station) ++ ⟨#[32]⟩ ++ asBytes (itoa x.from_) ++ ⟨#[45]⟩ ++ asBytes (itoa x.to_) ++ ⟨#[32, 120]⟩ ++ asBytes (itoa x.quota) else ⟨#[]⟩
theorem textCl_no {x : Cl} (h : okCl x = false) : textCl x = ⟨#[]⟩ := by simp [textCl, h]
theorem textCl_yes {x : Cl} (h : okCl x = true) : textCl x = x.name ++ ⟨#[64]⟩ ++ asBytes (itoa x.station) ++ ⟨#[32]⟩ ++ asBytes (itoa x.from_) ++ ⟨#[45]⟩ ++ asBytes (itoa x.to_) ++ ⟨#[32, 120]⟩ ++ asBytes (itoa x.quota) := by simp only [textCl, h, if_true]

end Go.Proofs.YtjmlcobbjpmjpaaDoor
