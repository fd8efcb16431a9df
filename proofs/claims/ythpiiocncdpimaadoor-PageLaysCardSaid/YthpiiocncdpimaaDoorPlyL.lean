/- From what the row lists to the premises of page.Lay's contract: utf8's tables, the powers of ten. -/
import Derived.Test.YthpiiocncdpimaaDoorPly6
import Derived.Test.YthpiiocncdpimaaDoorRows
import Derived.Lib.LaidU8T
import Derived.Lib.LaidTab
import Derived.Stop.LaidErr
import Derived.LaidLaws
namespace Go.Proofs.YthpiiocncdpimaaDoor
set_option linter.unusedVariables false
set_option linter.unusedSimpArgs false
set_option maxRecDepth 100000
open Go.RowKit Go.Shelf

theorem first_data : (Rows.laid_unicode_utf8_first : DataW Unit) = Lib.firstData := by kernel_rfl
theorem accept_data : (Rows.laid_unicode_utf8_acceptRanges : DataW Unit) = Lib.acceptData := by kernel_rfl
theorem pow_data {H : Type} : (Lib.tabData .u64 Lib.pow10Tab : DataW H) = .agg [.lit (.int .u64 1), .lit (.int .u64 10), .lit (.int .u64 100), .lit (.int .u64 1000), .lit (.int .u64 10000), .lit (.int .u64 100000), .lit (.int .u64 1000000), .lit (.int .u64 10000000), .lit (.int .u64 100000000), .lit (.int .u64 1000000000), .lit (.int .u64 10000000000), .lit (.int .u64 100000000000), .lit (.int .u64 1000000000000), .lit (.int .u64 10000000000000), .lit (.int .u64 100000000000000), .lit (.int .u64 1000000000000000), .lit (.int .u64 10000000000000000), .lit (.int .u64 100000000000000000), .lit (.int .u64 1000000000000000000), .lit (.int .u64 10000000000000000000)] := by
  have : Lib.pow10Tab = [1, 10, 100, 1000, 10000, 100000, 1000000, 10000000, 100000000, 1000000000, 10000000000, 100000000000, 1000000000000, 10000000000000, 100000000000000, 1000000000000000, 10000000000000000, 100000000000000000, 1000000000000000000, 10000000000000000000] := by decide +kernel
  unfold Lib.tabData; rw [this]; rfl
theorem laid_pow {W : World} {rest : List (String × DataW Unit)} {d : DataW Unit} (hd : d = Lib.tabData .u64 Lib.pow10Tab) (h : laidMet Tryd.prog (("internal/strconv.uint64pow10", d) :: rest) W) : Pow W := by
  subst hd
  exact Lib.tabIs_of_head (g := 2) (t := 165) (e := 129) (n := 20) (by kernel_rfl) (by kernel_rfl) Tryd.underlying165 Tryd.underlying129 (by kernel_rfl) (by kernel_rfl) h
theorem laid_utf8 {W : World} (hL : laidMet Tryd.prog Rows.pageLaysRow.laid W) : Lib.Utf8Tabs 0 1 W := by
  have h1 : ("unicode/utf8.acceptRanges", Lib.acceptData) ∈ (Rows.pageLaysRow.laid : List (String × DataW Unit)) := by rw [← accept_data]; exact .tail _ (.tail _ (.tail _ (.head _)))
  have h2 : ("unicode/utf8.first", Lib.firstData) ∈ (Rows.pageLaysRow.laid : List (String × DataW Unit)) := by rw [← first_data]; exact .tail _ (.tail _ (.tail _ (.tail _ (.head _))))
  exact utf8Tabs_of_readsT (ρ := Tryd.laysn196_ren) { Tryd.laysn196 with } ⟨by kernel_rfl, by kernel_rfl, by kernel_rfl, by kernel_rfl, by kernel_rfl, by kernel_rfl, by kernel_rfl⟩ (Lib.laidMet.reads hL h2) (Lib.laidMet.reads hL h1)
theorem laid_pows {W : World} (hL : laidMet Tryd.prog Rows.pageLaysRow.laid W) : Pow W := laid_pow pow_data.symm hL.tail.tail
end Go.Proofs.YthpiiocncdpimaaDoor
