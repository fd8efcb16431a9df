import Derived.Test.YtdmkghgachapaabGreatDoorBase
import Derived.Test.YtdmkghgachapaabGreatDoorMg2
namespace Go.Proofs.YtdmkghgachapaabGreatDoor
set_option linter.unusedVariables false
set_option linter.unusedSimpArgs false
set_option maxRecDepth 100000
open Go.RowKit Num
theorem str_get (s : ByteArray) (k : Nat) (h : k < s.size) : s.data.toList[k]? = some s[k] := by
  have e : s.data.size = s.size := rfl
  rw [Array.getElem?_toList, Array.getElem?_eq_getElem (by omega)]; rfl
theorem str_len (s : ByteArray) : s.data.toList.length = s.size := by simp
theorem str_eta (s : ByteArray) : (⟨s.data.toList.toArray⟩ : ByteArray) = s := by simp
theorem str_list (s : ByteArray) : s.toList = s.data.toList := ByteArray.toList_eq s
theorem str_empty (s : ByteArray) (h : s.size = 0) : s = ⟨#[]⟩ := by
  have := str_len s; rw [h] at this; rw [← str_eta s, List.length_eq_zero_iff.1 this]
theorem str_ne (s : ByteArray) (h : 0 < s.size) : s.toList.isEmpty = false := by
  rw [str_list]; have := str_len s; cases hh : s.data.toList with
  | nil => rw [hh] at this; simp at this; omega
  | cons _ _ => rfl
end Go.Proofs.YtdmkghgachapaabGreatDoor
