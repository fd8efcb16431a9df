/- From what the row lists to the premises of utf8's contracts. -/
import Derived.Test.YtkckllolgjeiiaaDoorPage1
import Derived.Test.YtkckllolgjeiiaaDoorRows
import Derived.Lib.LaidU8T
namespace Go.Proofs.YtkckllolgjeiiaaDoor
set_option linter.unusedVariables false
set_option maxRecDepth 100000
open Go.RowKit Go.Shelf

theorem first_data : (Rows.laid_unicode_utf8_first : DataW Unit) = Lib.firstData := by kernel_rfl
theorem accept_data : (Rows.laid_unicode_utf8_acceptRanges : DataW Unit) = Lib.acceptData := by kernel_rfl
theorem laid_utf8 {W : World} (hL : laidMet Tryd.prog Rows.pageChecksRow.laid W) : Lib.Utf8Tabs 1 2 W := by
  have h1 : ("unicode/utf8.acceptRanges", Lib.acceptData) ∈ (Rows.pageChecksRow.laid : List (String × DataW Unit)) := by rw [← accept_data]; exact .head _
  have h2 : ("unicode/utf8.first", Lib.firstData) ∈ (Rows.pageChecksRow.laid : List (String × DataW Unit)) := by rw [← first_data]; exact .tail _ (.head _)
  exact utf8Tabs_of_readsT (ρ := Tryd.laysn196_ren) { Tryd.laysn196 with } ⟨by kernel_rfl, by kernel_rfl, by kernel_rfl, by kernel_rfl, by kernel_rfl, by kernel_rfl, by kernel_rfl⟩ (Lib.laidMet.reads hL h2) (Lib.laidMet.reads hL h1)
end Go.Proofs.YtkckllolgjeiiaaDoor
