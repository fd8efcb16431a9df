/- Two digits and the text of an offset: plain, and the contracts of zonetext.two, zonetext.offset and of the reference's pad2, OffsetText. -/
import Derived.Test.YticflmepmmdnfabDoorTxt1
import Derived.Test.YticflmepmmdnfabDoorOne
import Derived.Laws.Concat
import Derived.Laws.IdiomStrings
import Derived.Deep.Cut
namespace Go.Proofs.YticflmepmmdnfabDoor
set_option linter.unusedVariables false
set_option maxRecDepth 100000
open Go.RowKit Go.Shelf Num

def two (n : Nat) : List UInt8 := [UInt8.ofNat (48 + n / 10), UInt8.ofNat (48 + n % 10)]
def twoS (n : Nat) : ByteArray := ⟨(two n).toArray⟩
theorem twoS_size (n : Nat) : (twoS n).size = 2 := rfl
theorem app_list (a b : ByteArray) : (a ++ b).data.toList = a.data.toList ++ b.data.toList := by simp [ByteArray.data_append]
theorem app_size (a b : ByteArray) : (a ++ b).size = a.size + b.size := by simp [ByteArray.size_append]
/-- Concatenation in a walk. -/
theorem add_ok (a b c : ByteArray) (hc : a ++ b = c) (h : a.size + b.size ≤ 9223372036854775807) : ∀ W, (Op.stringOp .add a b).run Tryd.prog W = .ok (.string c) W := fun W => by rw [← hc]; exact run_string_add_sum W _ _ h
theorem two_itoa (n : Nat) (h : n < 100) : two n = if n < 10 then 48 :: Lib.itoa n else Lib.itoa n := by
  rw [itoa_nat]
  by_cases h1 : n < 10
  · rw [if_pos h1, dd_one n h1]
    unfold two; rw [show n / 10 = 0 by omega, show n % 10 = n by omega]; rfl
  · rw [if_neg h1, dd_snoc n h1, dd_one (n / 10) (by omega)]; rfl
/-- The text of an offset of n seconds behind its sign. -/
def offS (n : Int) : ByteArray :=
  ((((if n < 0 then ⟨#[45]⟩ else ⟨#[43]⟩ : ByteArray) ++ twoS (n.natAbs / 1000 / 3600)) ++ ⟨#[58]⟩) ++ twoS (n.natAbs / 1000 / 60 % 60) ++ ⟨#[58]⟩) ++ twoS (n.natAbs / 1000 % 60)
theorem offS_size (n : Int) : (offS n).size = 9 := by
  unfold offS
  rw [app_size, app_size, app_size, app_size, app_size, twoS_size, twoS_size, twoS_size]
  have : (if n < 0 then (⟨#[45]⟩ : ByteArray) else ⟨#[43]⟩).size = 1 := by split <;> rfl
  rw [this]; rfl
end Go.Proofs.YticflmepmmdnfabDoor
