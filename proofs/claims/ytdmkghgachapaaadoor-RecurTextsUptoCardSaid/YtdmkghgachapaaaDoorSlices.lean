/- Contracts of slices.Index and slices.Contains at []int. -/
import Derived.Test.YtdmkghgachapaaaDoorMem
namespace Go.Proofs.YtdmkghgachapaaaDoor
set_option linter.unusedVariables false
set_option maxRecDepth 100000
open Go.RowKit

/-- Whether a list holds a number. -/
def hasB (x : Int) (xs : List Int) : Bool := decide (x ∈ xs)
theorem hasB_cases (x : Int) (xs : List Int) : (hasB x xs = true ∧ x ∈ xs) ∨ (hasB x xs = false ∧ ¬ x ∈ xs) := by
  by_cases c : x ∈ xs
  · exact .inl ⟨decide_eq_true c, c⟩
  · exact .inr ⟨decide_eq_false c, c⟩
theorem take_snoc {α : Type} {xs : List α} {k : Nat} {x : α} (h : xs[k]? = some x) : xs.take (k + 1) = xs.take k ++ [x] := by
  obtain ⟨hl, rfl⟩ := List.getElem?_eq_some_iff.1 h
  exact List.take_succ_eq_append_getElem hl

/-- What Index returns: -1, or a place. -/
def Placed (v : Int) (xs : List Int) (w : World) (e : Ending) (w' : World) : Prop :=
  ∃ i : Int, ((hasB v xs = true ∧ 0 ≤ i ∧ i ≤ 9223372036854775807) ∨ (hasB v xs = false ∧ i = -1)) ∧ e = .returned (.int .i64 i) ∧ w = w'
theorem slices_Index (w : World) (a : Option Addr) (n c : Nat) (xs : List Int) (v : Int) (B : Nat) (h : Ints w B a n xs) :
    Calls Tryd.prog 51 #[.slice a n c, .int .i64 v] w (Placed v xs w) := by
  have m1 := h.2.1
  have H := Lib.hid h; clear h
  go_enter Tryd.func51, Tryd.ntmps51
  go_wp2_with fail
  go_loop [5, 8] (fun _ i => ∃ k : Nat, k ≤ n ∧ i = .int .i64 k ∧ ¬ v ∈ xs.take k) (fun _ i => n - (intOf i).toNat)
  case atStart => exact ⟨0, by omega, rfl, by simp⟩
  case round =>
    obtain ⟨k, hk, rfl, hall⟩ := hrel
    have HA := Lib.hid hall; clear hall
    by_cases hlt : k < n
    · obtain ⟨b1, o1, x, rfl, hb1, hc1, hx, x1, x2⟩ := H.out.at_ hlt
      have HX := Lib.hid hx; clear hx
      by_cases hq : v = x
      · have hb : (v == x) = true := by simp [hq]
        have hf := Lib.hid (show hasB v xs = true from decide_eq_true (by rw [hq]; exact List.mem_of_getElem? HX.out))
        clear hq
        go_wp2_with fail
        go_ret
        exact ⟨k, .inl ⟨hf.out, by omega, by omega⟩, rfl, rfl⟩
      · have hb : (v == x) = false := by simp [hq]
        have HQ := Lib.hid hq; clear hq
        go_wp2_with fail
        go_round
        case rel =>
          refine ⟨k + 1, by omega, by go_num, ?_⟩
          rw [take_snoc HX.out, List.mem_append, List.mem_singleton]
          exact fun h => h.elim HA.out HQ.out
        case measure => simp [intOf]; omega
    · go_wp2_with fail
      go_ret
      refine ⟨-1, .inr ⟨decide_eq_false ?_, rfl⟩, rfl, rfl⟩
      have := HA.out
      rwa [List.take_of_length_le (by have := H.out.1; omega)] at this
theorem slices_Contains (w : World) (a : Option Addr) (n c : Nat) (xs : List Int) (v : Int) (B : Nat) (h : Ints w B a n xs) :
    Calls Tryd.prog 39 #[.slice a n c, .int .i64 v] w fun e w' => e = .returned (.bool (hasB v xs)) ∧ w = w' := by
  go_enter Tryd.func39, Tryd.ntmps39
  have H := Lib.hid h; clear h
  go_wp2_with fail
  refine (slices_Index _ a n c xs v B H.out).mono ?_
  rintro e w' ⟨i, hi, rfl, rfl⟩
  rcases hi with ⟨hf, i1, i2⟩ | ⟨hf, rfl⟩
  · have HF := Lib.hid hf; clear hf
    go_wp2_with fail
    go_ret
    exact ⟨ret_bool (by rw [HF.out]), rfl⟩
  · have HF := Lib.hid hf; clear hf
    go_wp2_with fail
    go_ret
    exact ⟨ret_bool (by rw [HF.out]), rfl⟩
end Go.Proofs.YtdmkghgachapaaaDoor
