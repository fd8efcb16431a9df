/- Contract of the reference's digits: is a text a number without leading zeros? -/
import Derived.Test.YthpiiocncdpimaaDoorBase
import Derived.Test.YthpiiocncdpimaaDoorNum
namespace Go.Proofs.YthpiiocncdpimaaDoor
set_option linter.unusedVariables false
set_option linter.unusedSimpArgs false
set_option maxRecDepth 100000
open Go.RowKit Num

theorem str_get (s : ByteArray) (k : Nat) (h : k < s.size) : s.data.toList[k]? = some s[k] := by
  have e : s.data.size = s.size := rfl
  rw [Array.getElem?_toList, Array.getElem?_eq_getElem (by omega)]; rfl
theorem str_len (s : ByteArray) : s.data.toList.length = s.size := by simp
theorem str_take (s : ByteArray) (k : Nat) (h : k < s.size) : s.data.toList.take (k + 1) = s.data.toList.take k ++ [s[k]] := by
  rw [List.take_add_one, str_get s k h]; rfl
theorem str_eta (s : ByteArray) : (⟨s.data.toList.toArray⟩ : ByteArray) = s := by simp
theorem str_list (s : ByteArray) : s.toList = s.data.toList := ByteArray.toList_eq s
theorem str_empty (s : ByteArray) (h : s.size = 0) : s = ⟨#[]⟩ := by
  have := str_len s; rw [h] at this; rw [← str_eta s, List.length_eq_zero_iff.1 this]
theorem str_ne (s : ByteArray) (h : 0 < s.size) : s.toList.isEmpty = false := by
  rw [str_list]; have := str_len s; cases hh : s.data.toList with
  | nil => rw [hh] at this; simp at this; omega
  | cons _ _ => rfl
theorem dig_int (c : UInt8) : isDig c = decide (48 ≤ (c.toNat : Int) ∧ (c.toNat : Int) ≤ 57) := by
  unfold isDig; rw [Bool.eq_iff_iff]; simp; omega
theorem dB_zero (s : ByteArray) (h : 1 < s.size) (h0 : ((s[0].toNat : Int) == 48) = true) : digitsB s.data.toList = false := by
  have hl := str_len s
  have hg := str_get s 0 (by omega)
  have e : s[0] = 48 := by
    have h2 : (s[0].toNat : Int) = 48 := by simpa using h0
    have : UInt8.ofNat s[0].toNat = UInt8.ofNat 48 := by rw [show s[0].toNat = 48 by omega]
    simpa using this
  unfold digitsB
  rw [hl, show s.data.toList.getD 0 0 = 48 by rw [List.getD_eq_getElem?_getD, hg, e]; rfl]
  simp [h]
theorem dB_bad (s : ByteArray) (k : Nat) (h : k < s.size) (hd : isDig s[k] = false) : digitsB s.data.toList = false := by
  have : s.data.toList.all isDig = false := by
    rw [List.all_eq_false]; exact ⟨s[k], List.mem_of_getElem? (str_get s k h), by rw [hd]; simp⟩
  unfold digitsB; rw [this]; simp
theorem dB_ok (s : ByteArray) (h : 0 < s.size) (h0 : s.size ≤ 1 ∨ ((s[0].toNat : Int) == 48) = false) (ha : (s.data.toList.take s.size).all isDig = true) : digitsB s.data.toList = true := by
  have hl := str_len s
  rw [List.take_of_length_le (by omega)] at ha
  have hn := str_ne s h
  rw [str_list] at hn
  unfold digitsB
  rw [ha, hn, hl]
  rcases h0 with h0 | h0
  · have : decide (1 < s.size) = false := by simpa using h0
    rw [this]; simp
  · have e : (s.data.toList.getD 0 0 == 48) = false := by
      rw [List.getD_eq_getElem?_getD, str_get s 0 h]
      show (s[0] == 48) = false
      rw [beq_eq_false_iff_ne]; intro e; rw [e] at h0; simp at h0
    rw [e]; simp

end Go.Proofs.YthpiiocncdpimaaDoor
