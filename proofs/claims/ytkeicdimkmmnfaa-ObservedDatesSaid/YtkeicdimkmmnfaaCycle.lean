/- Contracts of cycle.Check and of the reference's SetError. -/
import Derived.Test.YtkeicdimkmmnfaaMem
import Derived.Test.YtkeicdimkmmnfaaRef
namespace Go.Proofs.Ytkeicdimkmmnfaa
set_option linter.unusedVariables false
set_option maxRecDepth 100000
open Go.RowKit

/-- The i-th cycle is in order. -/
def cycOk (x y : Int) : Bool := decide (1 ≤ x ∧ x ≤ 1000 ∧ 0 ≤ y ∧ y < x)
def cycAll : List Int → List Int → Bool
  | x :: xs, y :: ys => cycOk x y && cycAll xs ys
  | _, _ => true
/-- The error of a set of cycles. -/
def setErr (xs ys : List Int) : Int := if ¬ (1 ≤ xs.length ∧ xs.length ≤ 8) then 2 else if ys.length ≠ xs.length then 8 else if cycAll xs ys then 0 else 3

theorem cycAll_bad : ∀ (k : Nat) (xs ys : List Int) {x y : Int}, xs[k]? = some x → ys[k]? = some y → cycOk x y = false → cycAll xs ys = false
  | 0, x' :: xs, y' :: ys, x, y, hx, hy, h => by
    simp at hx hy; subst hx hy; simp [cycAll, h]
  | k + 1, x' :: xs, y' :: ys, x, y, hx, hy, h => by
    simp at hx hy; simp [cycAll, cycAll_bad k xs ys hx hy h]
theorem cycAll_good : ∀ (xs ys : List Int), xs.length = ys.length → (∀ (k : Nat) (x y : Int), xs[k]? = some x → ys[k]? = some y → cycOk x y = true) → cycAll xs ys = true
  | [], _, _, _ => rfl
  | x :: xs, [], h, _ => by simp at h
  | x :: xs, y :: ys, h, hk => by
    simp only [cycAll, Bool.and_eq_true]
    exact ⟨hk 0 x y rfl rfl, cycAll_good xs ys (by simpa using h) fun k a b ha hb => hk (k + 1) a b (by simpa using ha) (by simpa using hb)⟩

theorem cycle_Check (w : World) (a1 a2 : Option Addr) (n1 c1 n2 c2 : Nat) (xs ys : List Int) (h1 : Ints w w.heap.size a1 n1 xs) (h2 : Ints w w.heap.size a2 n2 ys) :
    Calls Try.prog 97 #[.agg #[.slice a1 n1 c1, .slice a2 n2 c2]] w fun e w' => e = .returned (.int .i64 (setErr xs ys)) ∧ Below w.heap.size w w' := by
  have l1 := h1.len
  have l2 := h2.len
  have m1 := h1.2.1
  have m2 := h2.2.1
  by_cases hn : ¬ (1 ≤ n1 ∧ n1 ≤ 8)
  · have ho := Lib.hid (show setErr xs ys = 2 by rw [setErr, if_pos (by omega)])
    clear h1 h2 l1 l2
    have hn' : n1 < 1 ∨ 8 < n1 := by omega
    clear hn
    rcases hn' with hl | hl
    all_goals
      go_enter Try.func97, Try.ntmps97
      go_wp2_with fail
      go_ret
      exact ⟨ret_int (by rw [ho.out]), (Below.refl _ _).alloc (Nat.le_refl _) _⟩
  have hn1 : 1 ≤ n1 := by omega
  have hn8 : n1 ≤ 8 := by omega
  by_cases hne : n2 ≠ n1
  · have ho := Lib.hid (show setErr xs ys = 8 by rw [setErr, if_neg (by omega), if_pos (by omega)])
    have hb1 : ((n2 : Int) != (n1 : Int)) = true := by simp; omega
    clear h1 h2 l1 l2 hn hne
    go_enter Try.func97, Try.ntmps97
    go_wp2_with fail
    go_ret
    exact ⟨ret_int (by rw [ho.out]), (Below.refl _ _).alloc (Nat.le_refl _) _⟩
  obtain rfl : n2 = n1 := by omega
  have ho := Lib.hid (show setErr xs ys = if cycAll xs ys then 0 else 3 by rw [setErr, if_neg (by omega), if_neg (by omega)])
  clear hn hne
  have H1 := Lib.hid h1; have H2 := Lib.hid h2; have L1 := Lib.hid l1; have L2 := Lib.hid l2; clear h1 h2 l1 l2
  go_enter Try.func97, Try.ntmps97
  go_wp2_with fail
  go_loop [3, 4, 25] (fun _ _ i => ∃ k : Nat, k ≤ n2 ∧ i = .int .i64 k ∧ ∀ j x y, j < k → xs[j]? = some x → ys[j]? = some y → cycOk x y = true) (fun _ _ i => n2 - (intOf i).toNat)
  case atStart => exact ⟨0, by omega, rfl, fun j x y h => absurd h (by omega)⟩
  case round =>
    obtain ⟨k, hk, rfl, hall⟩ := hrel
    have HA := Lib.hid hall; clear hall
    by_cases hlt : k < n2
    · obtain ⟨b1, o1, x, rfl, hb1, hc1, hx, x1, x2⟩ := H1.out.at_ hlt
      obtain ⟨b2, o2, y, rfl, hb2, hc2, hy, y1, y2⟩ := H2.out.at_ hlt
      have HX := Lib.hid hx; have HY := Lib.hid hy; clear hx hy
      by_cases hok : 1 ≤ x ∧ x ≤ 1000 ∧ 0 ≤ y ∧ y < x
      · obtain ⟨q1, q2, q3, q4⟩ := hok
        go_wp2_with fail
        go_round
        case rel =>
          refine ⟨k + 1, by omega, by go_num, fun j x' y' hj hx' hy' => ?_⟩
          by_cases hjk : j = k
          · subst hjk
            have e1 := hx'.symm.trans HX.out
            have e2 := hy'.symm.trans HY.out
            injection e1 with e1; injection e2 with e2
            subst e1 e2
            exact decide_eq_true ⟨q1, q2, q3, q4⟩
          · exact HA.out j x' y' (by omega) hx' hy'
        case measure => simp [intOf]; omega
      · have hbad := cycAll_bad k xs ys HX.out HY.out (decide_eq_false hok)
        have HB := Lib.hid hbad; clear hbad
        have hcs : x < 1 ∨ 1000 < x ∨ (1 ≤ x ∧ x ≤ 1000 ∧ y < 0) ∨ (1 ≤ x ∧ x ≤ 1000 ∧ 0 ≤ y ∧ x ≤ y) := by omega
        clear hok
        rcases hcs with q | q | ⟨q1, q2, q3⟩ | ⟨q1, q2, q3, q4⟩
        all_goals
          go_wp2_with fail
          go_ret
          exact ⟨ret_int (by rw [ho.out, HB.out]; rfl), (Below.refl _ _).alloc (Nat.le_refl _) _⟩
    · go_wp2_with fail
      go_ret
      have hg := cycAll_good xs ys (by have := L1.out; have := L2.out; omega) (fun j x y hx hy => HA.out j x y (by have := (List.getElem?_eq_some_iff.1 hx).1; have := L1.out; omega) hx hy)
      exact ⟨ret_int (by rw [ho.out, hg]; rfl), (Below.refl _ _).alloc (Nat.le_refl _) _⟩

theorem ref_SetError (w : World) (a1 a2 : Option Addr) (n1 c1 n2 c2 : Nat) (xs ys : List Int) (h1 : Ints w w.heap.size a1 n1 xs) (h2 : Ints w w.heap.size a2 n2 ys) :
    Calls Try.prog 61 #[.agg #[.slice a1 n1 c1, .slice a2 n2 c2]] w fun e w' => e = .returned (.int .i64 (setErr xs ys)) ∧ Below w.heap.size w w' := by
  have l1 := h1.len
  have l2 := h2.len
  have m1 := h1.2.1
  have m2 := h2.2.1
  rcases inB_cases 1 8 (n1 : Int) with ⟨hb, hn⟩ | ⟨hb, hn⟩
  case inr =>
    have ho := Lib.hid (show setErr xs ys = 2 by rw [setErr, if_pos (by omega)])
    clear h1 h2 l1 l2
    go_enter Try.func61, Try.ntmps61
    go_wp2_with fail
    refine (ref_In _ _ _ _).mono ?_; rintro e w1 ⟨rfl, rfl⟩
    go_wp2_with fail
    go_ret
    exact ⟨ret_int (by rw [ho.out]), (Below.refl _ _).alloc (Nat.le_refl _) _⟩
  obtain ⟨hn1, hn8⟩ := hn
  by_cases hne : n2 ≠ n1
  · have ho := Lib.hid (show setErr xs ys = 8 by rw [setErr, if_neg (by omega), if_pos (by omega)])
    have hb1 : ((n1 : Int) != (n2 : Int)) = true := by simp; omega
    clear h1 h2 l1 l2 hne
    go_enter Try.func61, Try.ntmps61
    go_wp2_with fail
    refine (ref_In _ _ _ _).mono ?_; rintro e w1 ⟨rfl, rfl⟩
    go_wp2_with fail
    go_ret
    exact ⟨ret_int (by rw [ho.out]), (Below.refl _ _).alloc (Nat.le_refl _) _⟩
  obtain rfl : n2 = n1 := by omega
  have ho := Lib.hid (show setErr xs ys = if cycAll xs ys then 0 else 3 by rw [setErr, if_neg (by omega), if_neg (by omega)])
  clear hne
  have H1 := Lib.hid h1; have H2 := Lib.hid h2; have L1 := Lib.hid l1; have L2 := Lib.hid l2; clear h1 h2 l1 l2
  go_enter Try.func61, Try.ntmps61
  go_wp2_with fail
  refine (ref_In _ _ _ _).mono ?_; rintro e w1 ⟨rfl, rfl⟩
  go_wp2_with fail
  go_loopw [3, 19] (fun _ i wr => ∃ k : Nat, k ≤ n2 ∧ i = .int .i64 k ∧ (∀ j x y, j < k → xs[j]? = some x → ys[j]? = some y → cycOk x y = true) ∧ Drawn (w.alloc (.cells #[.slice a1 n2 c1, .slice a2 n2 c2] 24)) wr) (fun _ i _ => n2 - (intOf i).toNat)
  case atStart => exact ⟨0, by omega, rfl, fun j x y h => absurd h (by omega), Drawn.refl _⟩
  case round =>
    obtain ⟨k, hk, rfl, hall, hd⟩ := hrel
    have HA := Lib.hid hall; clear hall
    obtain ⟨nd, rfl⟩ := hd
    by_cases hlt : k < n2
    · obtain ⟨b1, o1, x, rfl, hb1, hc1, hx, x1, x2⟩ := H1.out.at_ hlt
      obtain ⟨b2, o2, y, rfl, hb2, hc2, hy, y1, y2⟩ := H2.out.at_ hlt
      have HX := Lib.hid hx; have HY := Lib.hid hy; clear hx hy
      by_cases hok : 1 ≤ x ∧ x ≤ 1000 ∧ 0 ≤ y ∧ y < x
      · obtain ⟨q1, q2, q3, q4⟩ := hok
        have i1 := inB_yes q1 q2
        have i2 := inB_yes (h := x - 1) q3 (by omega)
        have hw : IntKind.i64.wrap (x - 1) = x - 1 := IntWalk.i64_in _ (by omega)
        go_wp2_with fail
        go_quiet ((go_at_call 17; exact quiet_add_left (ref_In _ _ _ _)))
        go_wp2_with fail
        go_roundw
        case rel =>
          refine ⟨k + 1, by omega, by go_num, fun j x' y' hj hx' hy' => ?_, ⟨_, rfl⟩⟩
          by_cases hjk : j = k
          · subst hjk
            have e1 := hx'.symm.trans HX.out
            have e2 := hy'.symm.trans HY.out
            injection e1 with e1; injection e2 with e2
            subst e1 e2
            exact decide_eq_true ⟨q1, q2, q3, q4⟩
          · exact HA.out j x' y' (by omega) hx' hy'
        case measure => simp [intOf]; omega
      · have hbad := cycAll_bad k xs ys HX.out HY.out (decide_eq_false hok)
        have HB := Lib.hid hbad; clear hbad
        rcases inB_cases 1 1000 x with ⟨i1, q1, q2⟩ | ⟨i1, q⟩
        · have i2 : inB 0 (x - 1) y = false := inB_no (by omega)
          have hw : IntKind.i64.wrap (x - 1) = x - 1 := IntWalk.i64_in _ (by omega)
          clear hok
          go_wp2_with fail
          go_quiet ((go_at_call 17; exact quiet_add_left (ref_In _ _ _ _)))
          go_wp2_with fail
          go_ret
          exact ⟨ret_int (by rw [ho.out, HB.out]; rfl), below_drewN (below_drewN ((Below.refl _ _).alloc (Nat.le_refl _) _) _) _⟩
        · clear hok
          go_wp2_with fail
          go_quiet ((go_at_call 17; exact quiet_add_left (ref_In _ _ _ _)))
          go_wp2_with fail
          go_ret
          exact ⟨ret_int (by rw [ho.out, HB.out]; rfl), below_drewN (below_drewN ((Below.refl _ _).alloc (Nat.le_refl _) _) _) _⟩
    · go_wp2_with fail
      go_ret
      have hg := cycAll_good xs ys (by have := L1.out; have := L2.out; omega) (fun j x y hx hy => HA.out j x y (by have := (List.getElem?_eq_some_iff.1 hx).1; have := L1.out; omega) hx hy)
      exact ⟨ret_int (by rw [ho.out, hg]; rfl), below_drewN ((Below.refl _ _).alloc (Nat.le_refl _) _) _⟩
end Go.Proofs.Ytkeicdimkmmnfaa
