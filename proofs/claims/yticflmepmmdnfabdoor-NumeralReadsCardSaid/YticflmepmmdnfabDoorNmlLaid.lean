/- From what the rows of the numerals list to the premises of the contracts. -/
import Derived.Test.YticflmepmmdnfabDoorNml6
import Derived.Test.YticflmepmmdnfabDoorLaid
import Derived.Test.YticflmepmmdnfabDoorRows
import Derived.Lib.LaidU8T
namespace Go.Proofs.YticflmepmmdnfabDoor
set_option linter.unusedVariables false
set_option linter.unusedSimpArgs false
set_option maxRecDepth 100000
open Go.RowKit Go.Shelf

theorem first_data : (Rows.laid_unicode_utf8_first : DataW Unit) = Lib.firstData := by kernel_rfl
theorem accept_data : (Rows.laid_unicode_utf8_acceptRanges : DataW Unit) = Lib.acceptData := by kernel_rfl
theorem zer_data : (Rows.laid_ephemeris_numeral_zeros : DataW Unit) = Lib.tabData .i32 zerosZ := by kernel_rfl
theorem laid_utf {W : World} (hL : laidMet Tryd.prog Rows.numeralWritesRow.laid W) : Utf W := by
  have h1 : ("unicode/utf8.acceptRanges", Lib.acceptData) ∈ (Rows.numeralWritesRow.laid : List (String × DataW Unit)) := by rw [← accept_data]; exact .tail _ (.tail _ (.tail _ (.head _)))
  have h2 : ("unicode/utf8.first", Lib.firstData) ∈ (Rows.numeralWritesRow.laid : List (String × DataW Unit)) := by rw [← first_data]; exact .tail _ (.tail _ (.tail _ (.tail _ (.tail _ (.head _)))))
  exact utf8Tabs_of_readsT (ρ := Tryd.laysn230_ren) { Tryd.laysn230 with } ⟨by kernel_rfl, by kernel_rfl, by kernel_rfl, by kernel_rfl, by kernel_rfl, by kernel_rfl, by kernel_rfl⟩ (Lib.laidMet.reads hL h2) (Lib.laidMet.reads hL h1)
theorem laid_zer {W : World} (hL : laidMet Tryd.prog Rows.numeralWritesRow.laid W) : Zer W := by
  have h : laidMet Tryd.prog (("ephemeris/numeral.zeros", Lib.tabData .i32 zerosZ) :: [("unicode/utf8.first", Rows.laid_unicode_utf8_first)]) W := by
    rw [← zer_data]; exact hL.tail.tail.tail.tail
  exact Lib.tabIs_of_head (g := 0) (t := 68) (e := 21) (n := 9) (by kernel_rfl) (by kernel_rfl) Tryd.underlying68 Tryd.underlying21 (by kernel_rfl) (by kernel_rfl) h
end Go.Proofs.YticflmepmmdnfabDoor
