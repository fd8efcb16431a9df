/- Contract of cycle's check of the arguments of a search. -/
import Derived.Test.YtkeicdimkmmnfaaNext0
import Derived.Test.YtkeicdimkmmnfaaCycle4
namespace Go.Proofs.Ytkeicdimkmmnfaa
set_option linter.unusedVariables false
set_option maxRecDepth 100000
open Go.RowKit

/-- The places are in order. -/
def plaAll : List Int → List Int → Bool
  | x :: xs, z :: zs => decide (0 ≤ z ∧ z < x) && plaAll xs zs
  | _, _ => true
/-- The error of a search's arguments. -/
def argErr (xs ys zs : List Int) (d : Int) : Int := if setErr xs ys ≠ 0 then setErr xs ys else if inB (-4000000) 4000000 d = false then 3 else if zs.length ≠ xs.length then 8 else if plaAll xs zs then 0 else 1
theorem plaAll_bad : ∀ (k : Nat) (xs zs : List Int) {x z : Int}, xs[k]? = some x → zs[k]? = some z → ¬ (0 ≤ z ∧ z < x) → plaAll xs zs = false
  | 0, x' :: xs, y' :: ys, x, y, hx, hy, h => by
    simp at hx hy; subst hx hy; simp only [plaAll, decide_eq_false h, Bool.false_and]
  | k + 1, x' :: xs, y' :: ys, x, y, hx, hy, h => by
    simp at hx hy; simp [plaAll, plaAll_bad k xs ys hx hy h]
theorem plaAll_good : ∀ (xs zs : List Int), (∀ (k : Nat) (x z : Int), xs[k]? = some x → zs[k]? = some z → 0 ≤ z ∧ z < x) → plaAll xs zs = true
  | [], _, _ => by simp [plaAll]
  | x :: xs, [], _ => by simp [plaAll]
  | x :: xs, y :: ys, hk => by
    simp only [plaAll, Bool.and_eq_true]
    exact ⟨decide_eq_true (hk 0 x y rfl rfl), plaAll_good xs ys fun k a b ha hb => hk (k + 1) a b (by simpa using ha) (by simpa using hb)⟩
theorem plaAll_at : ∀ (xs zs : List Int), plaAll xs zs = true → ∀ (k : Nat) (x z : Int), xs[k]? = some x → zs[k]? = some z → 0 ≤ z ∧ z < x
  | [], _, _, k, x, z, hx, _ => by simp at hx
  | x' :: xs, [], _, k, x, z, _, hz => by simp at hz
  | x' :: xs, z' :: zs, h, k, x, z, hx, hz => by
    simp only [plaAll, Bool.and_eq_true] at h
    cases k with
    | zero => simp at hx hz; subst hx hz; exact of_decide_eq_true h.1
    | succ k => exact plaAll_at xs zs h.2 k x z (by simpa using hx) (by simpa using hz)

set_option maxHeartbeats 1000000 in
theorem cycle_check (w : World) (a1 a2 : Option Addr) (n1 c1 n2 c2 : Nat) (xs ys : List Int) (d : Int) (a3 : Option Addr) (n3 c3 : Nat) (zs : List Int) (h1 : Ints w w.heap.size a1 n1 xs) (h2 : Ints w w.heap.size a2 n2 ys) (h3 : Ints w w.heap.size a3 n3 zs) :
    Calls Try.prog 58 #[.agg #[.slice a1 n1 c1, .slice a2 n2 c2], .int .i64 d, .slice a3 n3 c3] w fun e w' => e = .returned (.int .i64 (argErr xs ys zs d)) ∧ Below w.heap.size w w' := by
  have l1 := h1.1; have l2 := h2.1; have l3 := h3.1
  have m1 := h1.2.1; have m3 := h3.2.1
  have H1 := Lib.hid h1; have H2 := Lib.hid h2; have H3 := Lib.hid h3
  clear h1 h2 h3
  by_cases q : setErr xs ys = 0
  case neg =>
    have ho := Lib.hid (show argErr xs ys zs d = setErr xs ys by rw [argErr, if_pos q])
    obtain ⟨E, hE⟩ : ∃ E, E = setErr xs ys := ⟨_, rfl⟩
    rw [← hE] at q ho
    have HE := Lib.hid hE; clear hE
    have q' : (E != 0) = true := by simpa using q
    clear q l1 l2 l3 m1 m3
    go_enter Try.func58, Try.ntmps58
    go_wp2_with fail
    refine (cycle_Check _ _ _ _ _ _ _ xs ys ((H1.out.below (below_new (Below.refl _ _) _) (Nat.le_refl _)).more (by simp)) ((H2.out.below (below_new (Below.refl _ _) _) (Nat.le_refl _)).more (by simp))).mono ?_; rw [← HE.out]; rintro e w1 ⟨rfl, hb⟩
    go_wp2_with fail
    go_ret
    exact ⟨ret_int (by rw [ho.out]), by (repeat' (first | exact Below.refl _ _ | assumption | refine Below.drew ?_ | refine below_drewN ?_ _ | refine below_new ?_ _ | refine below_set ?_ ?_ _ | refine below_then ?_ (by assumption) | refine below_drawn ?_ (by assumption) | exact Nat.le_refl _ | omega | (simp; done) | (simp; omega)))⟩
  have HE := Lib.hid q
  have ok := setOk_of q
  have hn8 : n1 ≤ 8 := by have := ok.l2; omega
  clear ok
  cases hd : inB (-4000000) 4000000 d
  case false =>
    have ho := Lib.hid (show argErr xs ys zs d = 3 by rw [argErr, if_neg (by simp [q]), if_pos hd])
    clear q l1 l2 l3 m1 m3
    go_enter Try.func58, Try.ntmps58
    go_wp2_with fail
    refine (cycle_Check _ _ _ _ _ _ _ xs ys ((H1.out.below (below_new (Below.refl _ _) _) (Nat.le_refl _)).more (by simp)) ((H2.out.below (below_new (Below.refl _ _) _) (Nat.le_refl _)).more (by simp))).mono ?_; rw [HE.out]; rintro e w1 ⟨rfl, hb⟩
    go_wp2_with fail
    refine (line_Is _ _).mono ?_; rw [hd]; rintro e w2 ⟨rfl, rfl⟩
    go_wp2_with fail
    go_ret
    exact ⟨ret_int (by rw [ho.out]), by (repeat' (first | exact Below.refl _ _ | assumption | refine Below.drew ?_ | refine below_drewN ?_ _ | refine below_new ?_ _ | refine below_set ?_ ?_ _ | refine below_then ?_ (by assumption) | refine below_drawn ?_ (by assumption) | exact Nat.le_refl _ | omega | (simp; done) | (simp; omega)))⟩
  by_cases hne : n3 ≠ n1
  · have ho := Lib.hid (show argErr xs ys zs d = 8 by rw [argErr, if_neg (by simp [q]), if_neg (by simp [hd]), if_pos (by omega)])
    have hb1 : ((n3 : Int) != (n1 : Int)) = true := by simp; omega
    clear q l1 l2 l3 hne
    go_enter Try.func58, Try.ntmps58
    go_wp2_with fail
    refine (cycle_Check _ _ _ _ _ _ _ xs ys ((H1.out.below (below_new (Below.refl _ _) _) (Nat.le_refl _)).more (by simp)) ((H2.out.below (below_new (Below.refl _ _) _) (Nat.le_refl _)).more (by simp))).mono ?_; rw [HE.out]; rintro e w1 ⟨rfl, hb⟩
    have a0 := (At.new w (.cells #[.slice a1 n1 c1, .slice a2 n2 c2] 24)).then_ hb
    have b0 : Below w.heap.size w w1 := by (repeat' (first | exact Below.refl _ _ | assumption | refine Below.drew ?_ | refine below_drewN ?_ _ | refine below_new ?_ _ | refine below_set ?_ ?_ _ | refine below_then ?_ (by assumption) | refine below_drawn ?_ (by assumption) | exact Nat.le_refl _ | omega | (simp; done) | (simp; omega)))
    clear hb
    have d0 := a0.cell 0; have d1 := a0.cell 1; simp at d0 d1
    have hlt := a0.lt
    go_wp2_with fail
    refine (line_Is _ _).mono ?_; rw [hd]; rintro e w2 ⟨rfl, rfl⟩
    go_wp2_with fail
    go_ret
    exact ⟨ret_int (by rw [ho.out]), by (repeat' (first | exact Below.refl _ _ | assumption | refine Below.drew ?_ | refine below_drewN ?_ _ | refine below_new ?_ _ | refine below_set ?_ ?_ _ | refine below_then ?_ (by assumption) | refine below_drawn ?_ (by assumption) | exact Nat.le_refl _ | omega | (simp; done) | (simp; omega)))⟩
  obtain rfl : n3 = n1 := by omega
  have ho := Lib.hid (show argErr xs ys zs d = if plaAll xs zs then 0 else 1 by rw [argErr, if_neg (by simp [q]), if_neg (by simp [hd]), if_neg (by omega)])
  have L1 := Lib.hid l1; have L3 := Lib.hid l3
  clear q hne l1 l2 l3
  go_enter Try.func58, Try.ntmps58
  go_wp2_with fail
  refine (cycle_Check _ _ _ _ _ _ _ xs ys ((H1.out.below (below_new (Below.refl _ _) _) (Nat.le_refl _)).more (by simp)) ((H2.out.below (below_new (Below.refl _ _) _) (Nat.le_refl _)).more (by simp))).mono ?_; rw [HE.out]; rintro e w1 ⟨rfl, hb⟩
  have a0 := (At.new w (.cells #[.slice a1 n3 c1, .slice a2 n2 c2] 24)).then_ hb
  have b0 : Below w.heap.size w w1 := by (repeat' (first | exact Below.refl _ _ | assumption | refine Below.drew ?_ | refine below_drewN ?_ _ | refine below_new ?_ _ | refine below_set ?_ ?_ _ | refine below_then ?_ (by assumption) | refine below_drawn ?_ (by assumption) | exact Nat.le_refl _ | omega | (simp; done) | (simp; omega)))
  clear hb
  have d0 := a0.cell 0; have d1 := a0.cell 1; simp at d0 d1
  have hlt := a0.lt
  go_wp2_with fail
  refine (line_Is _ _).mono ?_; rw [hd]; rintro e w2 ⟨rfl, rfl⟩
  go_wp2_with fail
  clear d0 d1
  go_loopw [8, 9, 26] (fun _ _ i wr => ∃ k : Nat, k ≤ n3 ∧ i = .int .i64 k ∧ (∀ j x z, j < k → xs[j]? = some x → zs[j]? = some z → 0 ≤ z ∧ z < x) ∧ At wr w.heap.size (.cells #[.slice a1 n3 c1, .slice a2 n2 c2] 24) ∧ Below w.heap.size w wr) (fun _ _ i _ => n3 - (intOf i).toNat)
  case atStart => exact ⟨0, by omega, rfl, fun j x z h => absurd h (by omega), a0, b0⟩
  case round =>
    clear a0 b0 hlt
    obtain ⟨k, hk, rfl, hall, a0, b0⟩ := hrel
    have HA := Lib.hid hall; clear hall
    have hltw := a0.lt
    by_cases hlt : k < n3
    · obtain ⟨b1, o1, x, rfl, hb1, hc1, hx, x1, x2⟩ := (H1.out.below b0 (Nat.le_refl _)).at_ hlt
      obtain ⟨b3, o3, z, rfl, hb3, hc3, hz, z1, z2⟩ := (H3.out.below b0 (Nat.le_refl _)).at_ hlt
      have HX := Lib.hid hx; have HZ := Lib.hid hz; clear hx hz
      have d0 := a0.cell 0; have d1 := a0.cell 1; simp at d0 d1
      by_cases hok : 0 ≤ z ∧ z < x
      · obtain ⟨q1, q2⟩ := hok
        go_wp2_with fail
        go_roundw
        case rel =>
          refine ⟨k + 1, by omega, by go_num, fun j x' z' hj hx' hz' => ?_, a0, b0⟩
          by_cases hjk : j = k
          · subst hjk
            have e1 := hx'.symm.trans HX.out
            have e2 := hz'.symm.trans HZ.out
            injection e1 with e1; injection e2 with e2
            subst e1 e2
            exact ⟨q1, q2⟩
          · exact HA.out j x' z' (by omega) hx' hz'
        case measure => simp [intOf]; omega
      · have HB := Lib.hid (plaAll_bad k xs zs HX.out HZ.out hok)
        have hcs : z < 0 ∨ (0 ≤ z ∧ x ≤ z) := by omega
        clear hok
        rcases hcs with q | ⟨q1, q2⟩
        all_goals
          go_wp2_with fail
          go_ret
          exact ⟨ret_int (by rw [ho.out, HB.out]; rfl), b0⟩
    · go_wp2_with fail
      go_ret
      have hg := plaAll_good xs zs (fun j x z hx hz => HA.out j x z (by have := (List.getElem?_eq_some_iff.1 hx).1; have := L1.out; omega) hx hz)
      exact ⟨ret_int (by rw [ho.out, hg]; rfl), b0⟩
end Go.Proofs.Ytkeicdimkmmnfaa
