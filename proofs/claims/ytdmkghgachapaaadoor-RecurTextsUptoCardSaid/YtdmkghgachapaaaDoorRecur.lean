/- Contracts of recur.list, recur.Check and of the reference's RecurError. -/
import Derived.Test.YtdmkghgachapaaaDoorSlices
import Derived.Test.YtdmkghgachapaaaDoorMem2
import Derived.Test.YtdmkghgachapaaaDoorLine
namespace Go.Proofs.YtdmkghgachapaaaDoor
set_option linter.unusedVariables false
set_option maxRecDepth 100000
open Go.RowKit

/-- The error of a list of numbers: each in range, none twice. -/
def listErr (lo hi : Int) (zero : Bool) : List Int → List Int → Int
  | _, [] => 0
  | seen, n :: l => if ¬ (lo ≤ n ∧ n ≤ hi) ∨ (n = 0 ∧ zero = false) then 3 else if n ∈ seen then 7 else listErr lo hi zero (seen ++ [n]) l
def listOut (lo hi : Int) (zero : Bool) (xs : List Int) : Int := if 31 < xs.length then 2 else listErr lo hi zero [] xs
theorem listErr_cons (lo hi : Int) (zero : Bool) (seen : List Int) (n : Int) (l : List Int) : listErr lo hi zero seen (n :: l) = if ¬ (lo ≤ n ∧ n ≤ hi) ∨ (n = 0 ∧ zero = false) then 3 else if n ∈ seen then 7 else listErr lo hi zero (seen ++ [n]) l := by
  rw [listErr.eq_def]
theorem drop_at' {α : Type} {xs : List α} {k : Nat} {x : α} (h : xs[k]? = some x) : xs.drop k = x :: xs.drop (k + 1) := by
  obtain ⟨hl, rfl⟩ := List.getElem?_eq_some_iff.1 h
  exact List.drop_eq_getElem_cons hl

set_option maxHeartbeats 1000000 in
theorem recur_list (w : World) (a : Option Addr) (n c : Nat) (xs : List Int) (lo hi : Int) (zero : Bool) (B : Nat) (h : Ints w B a n xs) (hc : n ≤ c) (hc2 : c ≤ 9223372036854775807) :
    Calls Tryd.prog 26 #[.slice a n c, .int .i64 lo, .int .i64 hi, .bool zero] w fun e w' => e = .returned (.int .i64 (listOut lo hi zero xs)) ∧ w = w' := by
  have l1 := h.1
  have H := Lib.hid h; clear h
  by_cases hn : 31 < n
  · have ho := Lib.hid (show listOut lo hi zero xs = 2 by rw [listOut, if_pos (by omega)])
    clear l1
    go_enter Tryd.func26, Tryd.ntmps26
    go_wp2_with fail
    go_ret
    exact ⟨ret_int (by rw [ho.out]), rfl⟩
  have ho := Lib.hid (show listOut lo hi zero xs = listErr lo hi zero [] xs by rw [listOut, if_neg (by omega)])
  have hn' : n ≤ 31 := by omega
  have L1 := Lib.hid l1; clear l1 hn
  go_enter Tryd.func26, Tryd.ntmps26
  go_wp2_with fail
  go_loop [9, 10, 16] (fun _ _ i => ∃ k : Nat, k ≤ n ∧ i = .int .i64 k ∧ listErr lo hi zero (xs.take k) (xs.drop k) = listErr lo hi zero [] xs) (fun _ _ i => n - (intOf i).toNat)
  case atStart => exact ⟨0, by omega, rfl, by simp⟩
  case round =>
    obtain ⟨k, hk, rfl, hall⟩ := hrel
    have HA := Lib.hid hall; clear hall
    by_cases hlt : k < n
    · obtain ⟨b1, o1, x, rfl, hb1, hc1, hx, x1, x2⟩ := H.out.at_ hlt
      have hst := HA.out
      rw [drop_at' hx, listErr_cons] at hst
      have HX := Lib.hid hx; clear hx
      by_cases hq : ¬ (lo ≤ x ∧ x ≤ hi) ∨ (x = 0 ∧ zero = false)
      · rw [if_pos hq] at hst
        have HF := Lib.hid (ho.out.trans hst.symm); clear hst
        have hq' : x < lo ∨ (lo ≤ x ∧ hi < x) ∨ (lo ≤ x ∧ x ≤ hi ∧ (x == 0) = true ∧ zero = false) := by
          rcases hq with hq | ⟨rfl, hz⟩
          · omega
          · by_cases h1 : 0 < lo
            · omega
            · by_cases h2 : hi < 0
              · omega
              · exact .inr (.inr ⟨by omega, by omega, rfl, hz⟩)
        clear hq
        rcases hq' with q | ⟨q, q'⟩ | ⟨q, q', q0, rfl⟩
        all_goals
          go_wp2_with fail
          go_ret
          exact ⟨ret_int (by rw [HF.out]), rfl⟩
      · rw [if_neg hq] at hst
        have q1 : lo ≤ x := by omega
        have q2 : x ≤ hi := by omega
        have hz : (x == 0) = false ∨ ((x == 0) = true ∧ zero = true) := by
          by_cases h : x = 0
          · right; exact ⟨by simp [h], by cases zero <;> simp_all⟩
          · left; simp [h]
        clear hq
        rcases hasB_cases x (xs.take k) with ⟨hh, hm⟩ | ⟨hh, hm⟩
        · rw [if_pos hm] at hst
          have HF := Lib.hid (ho.out.trans hst.symm); clear hst hm
          rcases hz with q0 | ⟨q0, rfl⟩
          all_goals
            go_wp2_with (go_at_call 39; refine (slices_Contains _ _ _ _ (xs.take k) _ B (H.out.take (by omega))).mono ?_; rintro e w1 ⟨rfl, rfl⟩)
            go_ret
            exact ⟨ret_int (by rw [HF.out]), rfl⟩
        · rw [if_neg hm] at hst
          have HS := Lib.hid hst; clear hst hm
          rcases hz with q0 | ⟨q0, rfl⟩
          all_goals
            go_wp2_with (go_at_call 39; refine (slices_Contains _ _ _ _ (xs.take k) _ B (H.out.take (by omega))).mono ?_; rintro e w1 ⟨rfl, rfl⟩)
            go_round
            case rel => exact ⟨k + 1, by omega, by go_num, by rw [take_snoc HX.out]; exact HS.out⟩
            case measure => simp [intOf]; omega
    · have hfin : listErr lo hi zero [] xs = 0 := by
        rw [← HA.out, List.drop_eq_nil_of_le (by have := L1.out; omega), listErr.eq_def]
      have HF := Lib.hid hfin; clear hfin
      go_wp2_with fail
      go_ret
      exact ⟨ret_int (by rw [ho.out, HF.out]), rfl⟩
end Go.Proofs.YtdmkghgachapaaaDoor
