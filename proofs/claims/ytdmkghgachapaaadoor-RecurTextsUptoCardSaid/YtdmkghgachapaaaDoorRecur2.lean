/- Contracts of recur.Check and of the reference's RecurError. -/
import Derived.Test.YtdmkghgachapaaaDoorRecur
namespace Go.Proofs.YtdmkghgachapaaaDoor
set_option linter.unusedVariables false
set_option maxRecDepth 100000
open Go.RowKit

/-- The error of a recurrence. -/
def recurErr (u ev f cn un : Int) (ws ms ns : List Int) : Int :=
  if ¬ (1 ≤ u ∧ u ≤ 4) then 1 else
  if ¬ (1 ≤ ev ∧ ev ≤ 1000) ∨ ¬ (-4000000 ≤ f ∧ f ≤ 4000000) ∨ ¬ (-4000000 ≤ un ∧ un ≤ 4000000) ∨ un < f ∨ ¬ (0 ≤ cn ∧ cn ≤ 1000) then 3 else
  if listOut 0 6 true ws ≠ 0 then listOut 0 6 true ws else
  if listOut (-31) 31 false ms ≠ 0 then listOut (-31) 31 false ms else listOut 1 12 true ns
theorem listErr_in (lo hi : Int) (z : Bool) : ∀ (l seen : List Int), 0 ≤ listErr lo hi z seen l ∧ listErr lo hi z seen l ≤ 7
  | [], seen => by rw [listErr.eq_def]; simp
  | n :: l, seen => by
    rw [listErr_cons]
    split
    · omega
    · split
      · omega
      · exact listErr_in lo hi z l _
theorem listOut_in (lo hi : Int) (z : Bool) (l : List Int) : 0 ≤ listOut lo hi z l ∧ listOut lo hi z l ≤ 7 := by
  rw [listOut]
  split
  · omega
  · exact listErr_in lo hi z l []

set_option maxHeartbeats 1000000 in
theorem recur_Check (w : World) (u ev f cn un : Int) (a1 a2 a3 : Option Addr) (n1 n2 n3 c1 c2 c3 : Nat) (ws ms ns : List Int)
    (h1 : Ints w w.heap.size a1 n1 ws) (h2 : Ints w w.heap.size a2 n2 ms) (h3 : Ints w w.heap.size a3 n3 ns) (k1 : n1 ≤ c1) (k2 : n2 ≤ c2) (k3 : n3 ≤ c3) (m1 : c1 ≤ 9223372036854775807) (m2 : c2 ≤ 9223372036854775807) (m3 : c3 ≤ 9223372036854775807) :
    Calls Tryd.prog 15 #[.agg #[.int .i64 u, .int .i64 ev, .int .i64 f, .int .i64 cn, .int .i64 un, .slice a1 n1 c1, .slice a2 n2 c2, .slice a3 n3 c3]] w fun e w' => e = .returned (.int .i64 (recurErr u ev f cn un ws ms ns)) ∧ Below w.heap.size w w' := by
  have H1 := Lib.hid h1; have H2 := Lib.hid h2; have H3 := Lib.hid h3; clear h1 h2 h3
  by_cases hu : 1 ≤ u ∧ u ≤ 4
  case neg =>
    have ho := Lib.hid (show recurErr u ev f cn un ws ms ns = 1 by rw [recurErr, if_pos hu])
    have hu' : u < 1 ∨ (1 ≤ u ∧ 4 < u) := by omega
    clear hu
    rcases hu' with q | ⟨q, q'⟩
    all_goals
      go_enter Tryd.func15, Tryd.ntmps15
      go_wp2_with fail
      go_ret
      exact ⟨ret_int (by rw [ho.out]), (Below.refl _ _).alloc (Nat.le_refl _) _⟩
  by_cases hr : ¬ (1 ≤ ev ∧ ev ≤ 1000) ∨ ¬ (-4000000 ≤ f ∧ f ≤ 4000000) ∨ ¬ (-4000000 ≤ un ∧ un ≤ 4000000) ∨ un < f ∨ ¬ (0 ≤ cn ∧ cn ≤ 1000)
  · have ho := Lib.hid (show recurErr u ev f cn un ws ms ns = 3 by rw [recurErr, if_neg (by omega), if_pos hr])
    obtain ⟨u1, u2⟩ := hu
    have hq : ev < 1 ∨ (1 ≤ ev ∧ 1000 < ev) ∨ (1 ≤ ev ∧ ev ≤ 1000 ∧ inB (-4000000) 4000000 f = false) ∨ (1 ≤ ev ∧ ev ≤ 1000 ∧ inB (-4000000) 4000000 f = true ∧ inB (-4000000) 4000000 un = false) ∨
        (1 ≤ ev ∧ ev ≤ 1000 ∧ inB (-4000000) 4000000 f = true ∧ inB (-4000000) 4000000 un = true ∧ un < f) ∨ (1 ≤ ev ∧ ev ≤ 1000 ∧ inB (-4000000) 4000000 f = true ∧ inB (-4000000) 4000000 un = true ∧ f ≤ un ∧ cn < 0) ∨
        (1 ≤ ev ∧ ev ≤ 1000 ∧ inB (-4000000) 4000000 f = true ∧ inB (-4000000) 4000000 un = true ∧ f ≤ un ∧ 0 ≤ cn ∧ 1000 < cn) := by
      rcases inB_cases (-4000000) 4000000 f with ⟨b1, b1'⟩ | ⟨b1, b1'⟩ <;> rcases inB_cases (-4000000) 4000000 un with ⟨b2, b2'⟩ | ⟨b2, b2'⟩ <;> simp only [b1, b2] <;> simp <;> omega
    clear hr
    rcases hq with q | ⟨q1, q2⟩ | ⟨q1, q2, q3⟩ | ⟨q1, q2, q3, q4⟩ | ⟨q1, q2, q3, q4, q5⟩ | ⟨q1, q2, q3, q4, q5, q6⟩ | ⟨q1, q2, q3, q4, q5, q6, q7⟩
    all_goals
      go_enter Tryd.func15, Tryd.ntmps15
      go_wp2_with (go_at_call 25; refine (line_Is _ _).mono ?_; rintro e w1 ⟨rfl, rfl⟩)
      go_ret
      exact ⟨ret_int (by rw [ho.out]), (Below.refl _ _).alloc (Nat.le_refl _) _⟩
  have ho0 := show recurErr u ev f cn un ws ms ns = if listOut 0 6 true ws ≠ 0 then listOut 0 6 true ws else if listOut (-31) 31 false ms ≠ 0 then listOut (-31) 31 false ms else listOut 1 12 true ns by rw [recurErr, if_neg (by omega), if_neg hr]
  have hf1 : inB (-4000000) 4000000 f = true := inB_yes (by omega) (by omega)
  have hf2 : inB (-4000000) 4000000 un = true := inB_yes (by omega) (by omega)
  have hv : 1 ≤ ev ∧ ev ≤ 1000 ∧ f ≤ un ∧ 0 ≤ cn ∧ cn ≤ 1000 := by omega
  obtain ⟨v1, v2, v3, v4, v5⟩ := hv
  obtain ⟨u1, u2⟩ := hu
  clear hr
  obtain ⟨e1, he1⟩ : ∃ e1, e1 = listOut 0 6 true ws := ⟨_, rfl⟩
  obtain ⟨e2, he2⟩ : ∃ e2, e2 = listOut (-31) 31 false ms := ⟨_, rfl⟩
  obtain ⟨e3, he3⟩ : ∃ e3, e3 = listOut 1 12 true ns := ⟨_, rfl⟩
  rw [← he1, ← he2, ← he3] at ho0
  have HO := Lib.hid ho0; have E1 := Lib.hid he1; have E2 := Lib.hid he2; have E3 := Lib.hid he3
  clear ho0 he1 he2 he3
  have W1 : ∀ (o : Obj) , Ints (w.alloc o) w.heap.size a1 n1 ws := fun o => H1.out.alloc (Nat.le_refl _) o
  have W2 : ∀ (o : Obj) , Ints (w.alloc o) w.heap.size a2 n2 ms := fun o => H2.out.alloc (Nat.le_refl _) o
  have W3 : ∀ (o : Obj) , Ints (w.alloc o) w.heap.size a3 n3 ns := fun o => H3.out.alloc (Nat.le_refl _) o
  have V1 := Lib.hid W1; have V2 := Lib.hid W2; have V3 := Lib.hid W3; clear W1 W2 W3
  go_enter Tryd.func15, Tryd.ntmps15
  go_wp2_with (go_at_call 25; refine (line_Is _ _).mono ?_; rintro e w1 ⟨rfl, rfl⟩)
  refine (recur_list _ _ _ _ ws 0 6 true _ (V1.out _) k1 m1).mono ?_
  rw [← E1.out]
  rintro e w1 ⟨rfl, rfl⟩
  by_cases z1 : e1 = 0
  case neg =>
    have zb : (e1 != 0) = true := by simp [z1]
    have Z1 := Lib.hid z1; clear z1
    go_wp2_with fail
    go_ret
    exact ⟨ret_int (by rw [HO.out, if_pos Z1.out]), (Below.refl _ _).alloc (Nat.le_refl _) _⟩
  have HO1 := HO.out
  rw [if_neg (by omega)] at HO1
  have HO2 := Lib.hid HO1; clear HO1 HO
  subst z1
  go_wp2_with fail
  refine (recur_list _ _ _ _ ms (-31) 31 false _ (V2.out _) k2 m2).mono ?_
  rw [← E2.out]
  rintro e w1 ⟨rfl, rfl⟩
  by_cases z1 : e2 = 0
  case neg =>
    have zb : (e2 != 0) = true := by simp [z1]
    have Z1 := Lib.hid z1; clear z1
    go_wp2_with fail
    go_ret
    exact ⟨ret_int (by rw [HO2.out, if_pos Z1.out]), (Below.refl _ _).alloc (Nat.le_refl _) _⟩
  have HO1 := HO2.out
  rw [if_neg (by omega)] at HO1
  have HO3 := Lib.hid HO1; clear HO1 HO2
  subst z1
  go_wp2_with fail
  refine (recur_list _ _ _ _ ns 1 12 true _ (V3.out _) k3 m3).mono ?_
  rw [← E3.out]
  rintro e w1 ⟨rfl, rfl⟩
  go_wp2_with fail
  go_ret
  exact ⟨ret_int (by rw [HO3.out]), (Below.refl _ _).alloc (Nat.le_refl _) _⟩

end Go.Proofs.YtdmkghgachapaaaDoor
