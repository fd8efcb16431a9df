/- Several texts in one: Both, Cat10, Cat11. -/
import Derived.Test.YtlbjmpdonnlieaaGreatDoorMgV
import Derived.Test.YtlbjmpdonnlieaaGreatDoorMgX
set_option linter.unusedSimpArgs false
namespace Go.Proofs.YtlbjmpdonnlieaaGreatDoor
set_option linter.unusedVariables false
set_option maxRecDepth 100000
open Go.RowKit
open Go.Shelf
theorem str_back (s : ByteArray) : (⟨s.data.toList.toArray⟩ : ByteArray) = s := by simp
end Go.Proofs.YtlbjmpdonnlieaaGreatDoor
