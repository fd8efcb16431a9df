/- Several texts in one: Recur, Recur2. -/
import Derived.Test.YtdmkghgachapaaaGreatDoorMgA
import Derived.Test.YtdmkghgachapaaaGreatDoorMgW
/- Contracts of recur.list, recur.Check and of the reference's RecurError. -/
namespace Go.Proofs.YtdmkghgachapaaaGreatDoor
set_option linter.unusedVariables false
set_option maxRecDepth 100000
open Go.RowKit

/-- The error of a list of numbers: each in range, none twice. -/
def listErr (lo hi : Int) (zero : Bool) : List Int → List Int → Int
  | _, [] => 0
  | seen, n :: l => if ¬ (lo ≤ n ∧ n ≤ hi) ∨ (n = 0 ∧ zero = false) then 3 else if n ∈ seen then 7 else listErr lo hi zero (seen ++ [n]) l
def listOut (lo hi : Int) (zero : Bool) (xs : List Int) : Int := if 31 < xs.length then 2 else listErr lo hi zero [] xs
theorem listErr_cons (lo hi : Int) (zero : Bool) (seen : List Int) (n : Int) (l : List Int) : listErr lo hi zero seen (n :: l) = if ¬ (lo ≤ n ∧ n ≤ hi) ∨ (n = 0 ∧ zero = false) then 3 else if n ∈ seen then 7 else listErr lo hi zero (seen ++ [n]) l := by
  rw [listErr.eq_def]
theorem drop_at' {α : Type} {xs : List α} {k : Nat} {x : α} (h : xs[k]? = some x) : xs.drop k = x :: xs.drop (k + 1) := by
  obtain ⟨hl, rfl⟩ := List.getElem?_eq_some_iff.1 h
  exact List.drop_eq_getElem_cons hl

set_option maxHeartbeats 1000000 in
theorem recur_list (w : World) (a : Option Addr) (n c : Nat) (xs : List Int) (lo hi : Int) (zero : Bool) (B : Nat) (h : Ints w B a n xs) (hc : n ≤ c) (hc2 : c ≤ 9223372036854775807) :
    Calls Tryz.prog 31 #[.slice a n c, .int .i64 lo, .int .i64 hi, .bool zero] w fun e w' => e = .returned (.int .i64 (listOut lo hi zero xs)) ∧ w = w' := by
  have l1 := h.1
  have H := Lib.hid h; clear h
  by_cases hn : 31 < n
  · have ho := Lib.hid (show listOut lo hi zero xs = 2 by rw [listOut, if_pos (by omega)])
    clear l1
    go_enter Tryz.func31, Tryz.ntmps31
    go_wp2_with fail
    go_ret
    exact ⟨ret_int (by rw [ho.out]), rfl⟩
  have ho := Lib.hid (show listOut lo hi zero xs = listErr lo hi zero [] xs by rw [listOut, if_neg (by omega)])
  have hn' : n ≤ 31 := by omega
  have L1 := Lib.hid l1; clear l1 hn
  go_enter Tryz.func31, Tryz.ntmps31
  go_wp2_with fail
  go_loop [9, 10, 16] (fun _ _ i => ∃ k : Nat, k ≤ n ∧ i = .int .i64 k ∧ listErr lo hi zero (xs.take k) (xs.drop k) = listErr lo hi zero [] xs) (fun _ _ i => n - (intOf i).toNat)
  case atStart => exact ⟨0, by omega, rfl, by simp⟩
  case round =>
    obtain ⟨k, hk, rfl, hall⟩ := hrel
    have HA := Lib.hid hall; clear hall
    by_cases hlt : k < n
    · obtain ⟨b1, o1, x, rfl, hb1, hc1, hx, x1, x2⟩ := H.out.at_ hlt
      have hst := HA.out
      rw [drop_at' hx, listErr_cons] at hst
      have HX := Lib.hid hx; clear hx
      by_cases hq : ¬ (lo ≤ x ∧ x ≤ hi) ∨ (x = 0 ∧ zero = false)
      · rw [if_pos hq] at hst
        have HF := Lib.hid (ho.out.trans hst.symm); clear hst
        have hq' : x < lo ∨ (lo ≤ x ∧ hi < x) ∨ (lo ≤ x ∧ x ≤ hi ∧ (x == 0) = true ∧ zero = false) := by
          rcases hq with hq | ⟨rfl, hz⟩
          · omega
          · by_cases h1 : 0 < lo
            · omega
            · by_cases h2 : hi < 0
              · omega
              · exact .inr (.inr ⟨by omega, by omega, rfl, hz⟩)
        clear hq
        rcases hq' with q | ⟨q, q'⟩ | ⟨q, q', q0, rfl⟩
        all_goals
          go_wp2_with fail
          go_ret
          exact ⟨ret_int (by rw [HF.out]), rfl⟩
      · rw [if_neg hq] at hst
        have q1 : lo ≤ x := by omega
        have q2 : x ≤ hi := by omega
        have hz : (x == 0) = false ∨ ((x == 0) = true ∧ zero = true) := by
          by_cases h : x = 0
          · right; exact ⟨by simp [h], by cases zero <;> simp_all⟩
          · left; simp [h]
        clear hq
        rcases hasB_cases x (xs.take k) with ⟨hh, hm⟩ | ⟨hh, hm⟩
        · rw [if_pos hm] at hst
          have HF := Lib.hid (ho.out.trans hst.symm); clear hst hm
          rcases hz with q0 | ⟨q0, rfl⟩
          all_goals
            go_wp2_with (go_at_call 37; refine (slices_Contains _ _ _ _ (xs.take k) _ B (H.out.take (by omega))).mono ?_; rintro e w1 ⟨rfl, rfl⟩)
            go_ret
            exact ⟨ret_int (by rw [HF.out]), rfl⟩
        · rw [if_neg hm] at hst
          have HS := Lib.hid hst; clear hst hm
          rcases hz with q0 | ⟨q0, rfl⟩
          all_goals
            go_wp2_with (go_at_call 37; refine (slices_Contains _ _ _ _ (xs.take k) _ B (H.out.take (by omega))).mono ?_; rintro e w1 ⟨rfl, rfl⟩)
            go_round
            case rel => exact ⟨k + 1, by omega, by go_num, by rw [take_snoc HX.out]; exact HS.out⟩
            case measure => simp [intOf]; omega
    · have hfin : listErr lo hi zero [] xs = 0 := by
        rw [← HA.out, List.drop_eq_nil_of_le (by have := L1.out; omega), listErr.eq_def]
      have HF := Lib.hid hfin; clear hfin
      go_wp2_with fail
      go_ret
      exact ⟨ret_int (by rw [ho.out, HF.out]), rfl⟩
end Go.Proofs.YtdmkghgachapaaaGreatDoor

/- Contracts of recur.Check and of the reference's RecurError. -/
namespace Go.Proofs.YtdmkghgachapaaaGreatDoor
set_option linter.unusedVariables false
set_option maxRecDepth 100000
open Go.RowKit

/-- The error of a recurrence. -/
def recurErr (u ev f cn un : Int) (ws ms ns : List Int) : Int :=
  if ¬ (1 ≤ u ∧ u ≤ 4) then 1 else
  if ¬ (1 ≤ ev ∧ ev ≤ 1000) ∨ ¬ (-4000000 ≤ f ∧ f ≤ 4000000) ∨ ¬ (-4000000 ≤ un ∧ un ≤ 4000000) ∨ un < f ∨ ¬ (0 ≤ cn ∧ cn ≤ 1000) then 3 else
  if listOut 0 6 true ws ≠ 0 then listOut 0 6 true ws else
  if listOut (-31) 31 false ms ≠ 0 then listOut (-31) 31 false ms else listOut 1 12 true ns
theorem listErr_in (lo hi : Int) (z : Bool) : ∀ (l seen : List Int), 0 ≤ listErr lo hi z seen l ∧ listErr lo hi z seen l ≤ 7
  | [], seen => by rw [listErr.eq_def]; simp
  | n :: l, seen => by
    rw [listErr_cons]
    split
    · omega
    · split
      · omega
      · exact listErr_in lo hi z l _
theorem listOut_in (lo hi : Int) (z : Bool) (l : List Int) : 0 ≤ listOut lo hi z l ∧ listOut lo hi z l ≤ 7 := by
  rw [listOut]
  split
  · omega
  · exact listErr_in lo hi z l []

set_option maxHeartbeats 1000000 in
theorem recur_Check (w : World) (u ev f cn un : Int) (a1 a2 a3 : Option Addr) (n1 n2 n3 c1 c2 c3 : Nat) (ws ms ns : List Int)
    (h1 : Ints w w.heap.size a1 n1 ws) (h2 : Ints w w.heap.size a2 n2 ms) (h3 : Ints w w.heap.size a3 n3 ns) (k1 : n1 ≤ c1) (k2 : n2 ≤ c2) (k3 : n3 ≤ c3) (m1 : c1 ≤ 9223372036854775807) (m2 : c2 ≤ 9223372036854775807) (m3 : c3 ≤ 9223372036854775807) :
    Calls Tryz.prog 16 #[.agg #[.int .i64 u, .int .i64 ev, .int .i64 f, .int .i64 cn, .int .i64 un, .slice a1 n1 c1, .slice a2 n2 c2, .slice a3 n3 c3]] w fun e w' => e = .returned (.int .i64 (recurErr u ev f cn un ws ms ns)) ∧ Below w.heap.size w w' := by
  have H1 := Lib.hid h1; have H2 := Lib.hid h2; have H3 := Lib.hid h3; clear h1 h2 h3
  by_cases hu : 1 ≤ u ∧ u ≤ 4
  case neg =>
    have ho := Lib.hid (show recurErr u ev f cn un ws ms ns = 1 by rw [recurErr, if_pos hu])
    have hu' : u < 1 ∨ (1 ≤ u ∧ 4 < u) := by omega
    clear hu
    rcases hu' with q | ⟨q, q'⟩
    all_goals
      go_enter Tryz.func16, Tryz.ntmps16
      go_wp2_with fail
      go_ret
      exact ⟨ret_int (by rw [ho.out]), (Below.refl _ _).alloc (Nat.le_refl _) _⟩
  by_cases hr : ¬ (1 ≤ ev ∧ ev ≤ 1000) ∨ ¬ (-4000000 ≤ f ∧ f ≤ 4000000) ∨ ¬ (-4000000 ≤ un ∧ un ≤ 4000000) ∨ un < f ∨ ¬ (0 ≤ cn ∧ cn ≤ 1000)
  · have ho := Lib.hid (show recurErr u ev f cn un ws ms ns = 3 by rw [recurErr, if_neg (by omega), if_pos hr])
    obtain ⟨u1, u2⟩ := hu
    have hq : ev < 1 ∨ (1 ≤ ev ∧ 1000 < ev) ∨ (1 ≤ ev ∧ ev ≤ 1000 ∧ inB (-4000000) 4000000 f = false) ∨ (1 ≤ ev ∧ ev ≤ 1000 ∧ inB (-4000000) 4000000 f = true ∧ inB (-4000000) 4000000 un = false) ∨
        (1 ≤ ev ∧ ev ≤ 1000 ∧ inB (-4000000) 4000000 f = true ∧ inB (-4000000) 4000000 un = true ∧ un < f) ∨ (1 ≤ ev ∧ ev ≤ 1000 ∧ inB (-4000000) 4000000 f = true ∧ inB (-4000000) 4000000 un = true ∧ f ≤ un ∧ cn < 0) ∨
        (1 ≤ ev ∧ ev ≤ 1000 ∧ inB (-4000000) 4000000 f = true ∧ inB (-4000000) 4000000 un = true ∧ f ≤ un ∧ 0 ≤ cn ∧ 1000 < cn) := by
      rcases inB_cases (-4000000) 4000000 f with ⟨b1, b1'⟩ | ⟨b1, b1'⟩ <;> rcases inB_cases (-4000000) 4000000 un with ⟨b2, b2'⟩ | ⟨b2, b2'⟩ <;> simp only [b1, b2] <;> simp <;> omega
    clear hr
    rcases hq with q | ⟨q1, q2⟩ | ⟨q1, q2, q3⟩ | ⟨q1, q2, q3, q4⟩ | ⟨q1, q2, q3, q4, q5⟩ | ⟨q1, q2, q3, q4, q5, q6⟩ | ⟨q1, q2, q3, q4, q5, q6, q7⟩
    all_goals
      go_enter Tryz.func16, Tryz.ntmps16
      go_wp2_with (go_at_call 30; refine (line_Is _ _).mono ?_; rintro e w1 ⟨rfl, rfl⟩)
      go_ret
      exact ⟨ret_int (by rw [ho.out]), (Below.refl _ _).alloc (Nat.le_refl _) _⟩
  have ho0 := show recurErr u ev f cn un ws ms ns = if listOut 0 6 true ws ≠ 0 then listOut 0 6 true ws else if listOut (-31) 31 false ms ≠ 0 then listOut (-31) 31 false ms else listOut 1 12 true ns by rw [recurErr, if_neg (by omega), if_neg hr]
  have hf1 : inB (-4000000) 4000000 f = true := inB_yes (by omega) (by omega)
  have hf2 : inB (-4000000) 4000000 un = true := inB_yes (by omega) (by omega)
  have hv : 1 ≤ ev ∧ ev ≤ 1000 ∧ f ≤ un ∧ 0 ≤ cn ∧ cn ≤ 1000 := by omega
  obtain ⟨v1, v2, v3, v4, v5⟩ := hv
  obtain ⟨u1, u2⟩ := hu
  clear hr
  obtain ⟨e1, he1⟩ : ∃ e1, e1 = listOut 0 6 true ws := ⟨_, rfl⟩
  obtain ⟨e2, he2⟩ : ∃ e2, e2 = listOut (-31) 31 false ms := ⟨_, rfl⟩
  obtain ⟨e3, he3⟩ : ∃ e3, e3 = listOut 1 12 true ns := ⟨_, rfl⟩
  rw [← he1, ← he2, ← he3] at ho0
  have HO := Lib.hid ho0; have E1 := Lib.hid he1; have E2 := Lib.hid he2; have E3 := Lib.hid he3
  clear ho0 he1 he2 he3
  have W1 : ∀ (o : Obj) , Ints (w.alloc o) w.heap.size a1 n1 ws := fun o => H1.out.alloc (Nat.le_refl _) o
  have W2 : ∀ (o : Obj) , Ints (w.alloc o) w.heap.size a2 n2 ms := fun o => H2.out.alloc (Nat.le_refl _) o
  have W3 : ∀ (o : Obj) , Ints (w.alloc o) w.heap.size a3 n3 ns := fun o => H3.out.alloc (Nat.le_refl _) o
  have V1 := Lib.hid W1; have V2 := Lib.hid W2; have V3 := Lib.hid W3; clear W1 W2 W3
  go_enter Tryz.func16, Tryz.ntmps16
  go_wp2_with (go_at_call 30; refine (line_Is _ _).mono ?_; rintro e w1 ⟨rfl, rfl⟩)
  refine (recur_list _ _ _ _ ws 0 6 true _ (V1.out _) k1 m1).mono ?_
  rw [← E1.out]
  rintro e w1 ⟨rfl, rfl⟩
  by_cases z1 : e1 = 0
  case neg =>
    have zb : (e1 != 0) = true := by simp [z1]
    have Z1 := Lib.hid z1; clear z1
    go_wp2_with fail
    go_ret
    exact ⟨ret_int (by rw [HO.out, if_pos Z1.out]), (Below.refl _ _).alloc (Nat.le_refl _) _⟩
  have HO1 := HO.out
  rw [if_neg (by omega)] at HO1
  have HO2 := Lib.hid HO1; clear HO1 HO
  subst z1
  go_wp2_with fail
  refine (recur_list _ _ _ _ ms (-31) 31 false _ (V2.out _) k2 m2).mono ?_
  rw [← E2.out]
  rintro e w1 ⟨rfl, rfl⟩
  by_cases z1 : e2 = 0
  case neg =>
    have zb : (e2 != 0) = true := by simp [z1]
    have Z1 := Lib.hid z1; clear z1
    go_wp2_with fail
    go_ret
    exact ⟨ret_int (by rw [HO2.out, if_pos Z1.out]), (Below.refl _ _).alloc (Nat.le_refl _) _⟩
  have HO1 := HO2.out
  rw [if_neg (by omega)] at HO1
  have HO3 := Lib.hid HO1; clear HO1 HO2
  subst z1
  go_wp2_with fail
  refine (recur_list _ _ _ _ ns 1 12 true _ (V3.out _) k3 m3).mono ?_
  rw [← E3.out]
  rintro e w1 ⟨rfl, rfl⟩
  go_wp2_with fail
  go_ret
  exact ⟨ret_int (by rw [HO3.out]), (Below.refl _ _).alloc (Nat.le_refl _) _⟩

end Go.Proofs.YtdmkghgachapaaaGreatDoor
