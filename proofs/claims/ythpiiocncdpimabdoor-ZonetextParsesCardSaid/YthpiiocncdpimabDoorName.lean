/- Contracts of rule.IsName and of the reference's Name. -/
import Derived.Test.YthpiiocncdpimabDoorBase
import Derived.WalkSpells
import Derived.WalkLawsBesides
namespace Go.Proofs.YthpiiocncdpimabDoor
set_option linter.unusedVariables false
set_option maxRecDepth 100000
open Go.RowKit

/-- The bytes of a name: small letters alone. -/
def small (c : UInt8) : Bool := decide (97 ≤ c.toNat ∧ c.toNat ≤ 122)
def word (s : ByteArray) : Bool := s.toList == [121] || s.toList == [97, 110, 100] || s.toList == [111, 114] || s.toList == [110, 111, 116]
def isName (s : ByteArray) : Bool := decide (1 ≤ s.size ∧ s.size ≤ 12) && !word s && s.data.toList.all small

theorem all_bad (s : ByteArray) (k : Nat) (h : k < s.size) (hb : small s[k] = false) : s.data.toList.all small = false := by
  rw [List.all_eq_false]
  exact ⟨s[k], by exact Array.getElem_mem_toList (by simpa using h), by rw [hb]; simp⟩
theorem all_good (s : ByteArray) (h : ∀ k (h : k < s.size), small s[k] = true) : s.data.toList.all small = true := by
  rw [List.all_eq_true]
  intro x hx
  obtain ⟨i, hi, rfl⟩ := List.getElem_of_mem hx
  exact h i (by simpa using hi)

theorem toList_empty (s : ByteArray) : s.toList.isEmpty = decide (s.size = 0) := by
  rw [ByteArray.toList_eq]
  have : s.size = s.data.toList.length := by rw [Array.length_toList]; rfl
  rw [this]
  cases s.data.toList <;> simp
theorem word_cases (s : ByteArray) : ((s.toList == [121]) = true ∨ ((s.toList == [121]) = false ∧ (s.toList == [97, 110, 100]) = true) ∨ ((s.toList == [121]) = false ∧ (s.toList == [97, 110, 100]) = false ∧ (s.toList == [111, 114]) = true) ∨
    ((s.toList == [121]) = false ∧ (s.toList == [97, 110, 100]) = false ∧ (s.toList == [111, 114]) = false ∧ (s.toList == [110, 111, 116]) = true)) ∧ word s = true ∨
    ((s.toList == [121]) = false ∧ (s.toList == [97, 110, 100]) = false ∧ (s.toList == [111, 114]) = false ∧ (s.toList == [110, 111, 116]) = false) ∧ word s = false := by
  unfold word
  cases s.toList == [121] <;> cases s.toList == [97, 110, 100] <;> cases s.toList == [111, 114] <;> cases s.toList == [110, 111, 116] <;> simp
theorem isName_size {s : ByteArray} (h : ¬ (1 ≤ s.size ∧ s.size ≤ 12)) : isName s = false := by simp only [isName, decide_eq_false h, Bool.false_and]
theorem isName_word {s : ByteArray} (h : word s = true) : isName s = false := by simp [isName, h]
theorem isName_all {s : ByteArray} (h1 : 1 ≤ s.size) (h2 : s.size ≤ 12) (h : word s = false) : isName s = s.data.toList.all small := by
  rw [isName, h, decide_eq_true ⟨h1, h2⟩]; rfl

theorem rule_IsName (s : ByteArray) (w : World) (hs : s.size ≤ 9223372036854775807) :
    Calls Tryd.prog 32 #[.string s] w fun e w' => e = .returned (.bool (isName s)) ∧ w = w' := by
  by_cases hn : 1 ≤ s.size ∧ s.size ≤ 12
  case neg =>
    have ho := Lib.hid (isName_size hn)
    have hn' : s.size < 1 ∨ 12 < s.size := by omega
    clear hn
    rcases hn' with h | h
    all_goals
      go_enter Tryd.func32, Tryd.ntmps32
      go_wp2_with fail
      go_ret
      exact ⟨ret_bool (by rw [ho.out]), rfl⟩
  obtain ⟨n1, n2⟩ := hn
  rcases word_cases s with ⟨hc, hw⟩ | ⟨⟨w1, w2, w3, w4⟩, hw⟩
  · have ho := Lib.hid (isName_word hw); clear hw
    rcases hc with w1 | ⟨w1, w2⟩ | ⟨w1, w2, w3⟩ | ⟨w1, w2, w3, w4⟩
    all_goals
      go_enter Tryd.func32, Tryd.ntmps32
      go_wp2_with fail
      go_ret
      exact ⟨ret_bool (by rw [ho.out]), rfl⟩
  · have ho := Lib.hid (isName_all n1 n2 hw); clear hw
    go_enter Tryd.func32, Tryd.ntmps32
    go_wp2_with fail
    go_loop [3, 30] (fun _ i => ∃ k : Nat, k ≤ s.size ∧ i = .int .i64 k ∧ ∀ j (h : j < s.size), j < k → small s[j] = true) (fun _ i => s.size - (intOf i).toNat)
    case atStart => exact ⟨0, by omega, rfl, fun j _ h => absurd h (by omega)⟩
    case round =>
      clear w1 w2 w3 w4
      obtain ⟨k, hk, rfl, hall⟩ := hrel
      have HA := Lib.hid hall; clear hall
      by_cases hlt : k < s.size
      · obtain ⟨c, hc⟩ : ∃ c, c = s[k] := ⟨_, rfl⟩
        by_cases hq : 97 ≤ s[k].toNat ∧ s[k].toNat ≤ 122
        · have q1 : (97 : Int) ≤ (s[k].toNat : Int) := by omega
          have q2 : (s[k].toNat : Int) ≤ 122 := by omega
          have HQ := Lib.hid hq; clear hq hc
          go_wp2_with fail
          go_round
          case rel =>
            refine ⟨k + 1, by omega, by go_num, fun j h hj => ?_⟩
            by_cases hjk : j = k
            · subst hjk; exact decide_eq_true HQ.out
            · exact HA.out j h (by omega)
          case measure => simp [intOf]; omega
        · have hb := Lib.hid (all_bad s k hlt (decide_eq_false hq))
          have hq' : (s[k].toNat : Int) < 97 ∨ (122 : Int) < (s[k].toNat : Int) := by omega
          clear hq hc
          rcases hq' with q | q
          all_goals
            go_wp2_with fail
            go_ret
            exact ⟨ret_bool (by rw [ho.out, hb.out]), rfl⟩
      · have hg := Lib.hid (all_good s (fun j h => HA.out j h (by omega)))
        go_wp2_with fail
        go_ret
        exact ⟨ret_bool (by rw [ho.out, hg.out]), rfl⟩
theorem ref_Name (s : ByteArray) (w : World) (hs : s.size ≤ 9223372036854775807) :
    Calls Tryd.prog 23 #[.string s] w fun e w' => e = .returned (.bool (isName s)) ∧ w = w' := by
  by_cases hz : s.size = 0
  · have ho := Lib.hid (isName_size (s := s) (by omega))
    have he' : s.toList.isEmpty = true := by rw [toList_empty, decide_eq_true hz]
    clear hz
    go_enter Tryd.func23, Tryd.ntmps23
    go_wp2_with fail
    go_ret
    exact ⟨ret_bool (by rw [ho.out]), rfl⟩
  have he' : s.toList.isEmpty = false := by rw [toList_empty, decide_eq_false hz]
  by_cases hn : 12 < s.size
  · have ho := Lib.hid (isName_size (s := s) (by omega))
    clear hz
    go_enter Tryd.func23, Tryd.ntmps23
    go_wp2_with fail
    go_ret
    exact ⟨ret_bool (by rw [ho.out]), rfl⟩
  have n1 : 1 ≤ s.size := by omega
  have n2 : s.size ≤ 12 := by omega
  clear hn hz
  have hfin := Lib.hid (word_cases s)
  go_enter Tryd.func23, Tryd.ntmps23
  go_wp2_with fail
  go_loop [3, 13] (fun _ i => ∃ k : Nat, k ≤ s.size ∧ i = .int .i64 k ∧ ∀ j (h : j < s.size), j < k → small s[j] = true) (fun _ i => s.size - (intOf i).toNat)
  case atStart => exact ⟨0, by omega, rfl, fun j _ h => absurd h (by omega)⟩
  case round =>
    obtain ⟨k, hk, rfl, hall⟩ := hrel
    have HA := Lib.hid hall; clear hall
    by_cases hlt : k < s.size
    · by_cases hq : 97 ≤ s[k].toNat ∧ s[k].toNat ≤ 122
      · have q1 : (97 : Int) ≤ (s[k].toNat : Int) := by omega
        have q2 : (s[k].toNat : Int) ≤ 122 := by omega
        have HQ := Lib.hid hq; clear hq
        go_wp2_with fail
        go_round
        case rel =>
          refine ⟨k + 1, by omega, by go_num, fun j h hj => ?_⟩
          by_cases hjk : j = k
          · subst hjk; exact decide_eq_true HQ.out
          · exact HA.out j h (by omega)
        case measure => simp [intOf]; omega
      · have hb := Lib.hid (all_bad s k hlt (decide_eq_false hq))
        have ho : isName s = false := by rw [isName, hb.out]; simp
        have HO := Lib.hid ho
        have hq' : (s[k].toNat : Int) < 97 ∨ (122 : Int) < (s[k].toNat : Int) := by omega
        clear hq ho
        rcases hq' with q | q
        all_goals
          go_wp2_with fail
          go_ret
          exact ⟨ret_bool (by rw [HO.out]), rfl⟩
    · have hg := Lib.hid (all_good s (fun j h => HA.out j h (by omega)))
      rcases hfin.out with ⟨hc, hw⟩ | ⟨⟨w1, w2, w3, w4⟩, hw⟩
      · have ho := Lib.hid (isName_word hw); clear hw
        rcases hc with w1 | ⟨w1, w2⟩ | ⟨w1, w2, w3⟩ | ⟨w1, w2, w3, w4⟩
        all_goals
          go_wp2_with fail
          go_ret
          exact ⟨ret_bool (by rw [ho.out]), rfl⟩
      · have ho := Lib.hid (isName_all n1 n2 hw); clear hw
        go_wp2_with fail
        go_ret
        exact ⟨ret_bool (by rw [ho.out, hg.out]), rfl⟩
end Go.Proofs.YthpiiocncdpimabDoor
