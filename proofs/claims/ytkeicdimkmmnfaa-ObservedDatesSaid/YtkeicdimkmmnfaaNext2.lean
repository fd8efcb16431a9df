/- Contract of the law's first error of a search's arguments. -/
import Derived.Test.YtkeicdimkmmnfaaNext1
namespace Go.Proofs.Ytkeicdimkmmnfaa
set_option linter.unusedVariables false
set_option maxRecDepth 100000
open Go.RowKit

set_option maxHeartbeats 1000000 in
theorem law_cycleError (w : World) (a1 a2 : Option Addr) (n1 c1 n2 c2 : Nat) (xs ys : List Int) (d : Int) (a3 : Option Addr) (n3 c3 : Nat) (zs : List Int) (h1 : Ints w w.heap.size a1 n1 xs) (h2 : Ints w w.heap.size a2 n2 ys) (h3 : Ints w w.heap.size a3 n3 zs) :
    Calls Try.prog 13 #[.agg #[.slice a1 n1 c1, .slice a2 n2 c2], .int .i64 d, .slice a3 n3 c3] w fun e w' => e = .returned (.int .i64 (argErr xs ys zs d)) ∧ Below w.heap.size w w' := by
  have l1 := h1.1; have l2 := h2.1; have l3 := h3.1
  have m1 := h1.2.1; have m3 := h3.2.1
  have H1 := Lib.hid h1; have H2 := Lib.hid h2; have H3 := Lib.hid h3
  clear h1 h2 h3
  by_cases q : setErr xs ys = 0
  case neg =>
    have ho := Lib.hid (show argErr xs ys zs d = setErr xs ys by rw [argErr, if_pos q])
    obtain ⟨E, hE⟩ : ∃ E, E = setErr xs ys := ⟨_, rfl⟩
    rw [← hE] at q ho
    have HE := Lib.hid hE; clear hE
    have q' : (E != 0) = true := by simpa using q
    clear q l1 l2 l3 m1 m3
    go_enter Try.func13, Try.ntmps13
    go_wp2_with fail
    refine (ref_SetError _ _ _ _ _ _ _ xs ys ((H1.out.below (below_new (Below.refl _ _) _) (Nat.le_refl _)).more (by simp)) ((H2.out.below (below_new (Below.refl _ _) _) (Nat.le_refl _)).more (by simp))).mono ?_; rw [← HE.out]; rintro e w1 ⟨rfl, hb⟩
    go_wp2_with fail
    go_ret
    exact ⟨ret_int (by rw [ho.out]), by (repeat' (first | exact Below.refl _ _ | assumption | refine Below.drew ?_ | refine below_drewN ?_ _ | refine below_new ?_ _ | refine below_set ?_ ?_ _ | refine below_then ?_ (by assumption) | refine below_drawn ?_ (by assumption) | exact Nat.le_refl _ | omega | (simp; done) | (simp; omega)))⟩
  have HE := Lib.hid q
  have ok := setOk_of q
  have hn8 : n1 ≤ 8 := by have := ok.l2; omega
  have OK := Lib.hid ok; clear ok
  cases hd : inB (-4000000) 4000000 d
  case false =>
    have ho := Lib.hid (show argErr xs ys zs d = 3 by rw [argErr, if_neg (by simp [q]), if_pos hd])
    clear q l1 l2 l3 m1 m3
    go_enter Try.func13, Try.ntmps13
    go_wp2_with fail
    refine (ref_SetError _ _ _ _ _ _ _ xs ys ((H1.out.below (below_new (Below.refl _ _) _) (Nat.le_refl _)).more (by simp)) ((H2.out.below (below_new (Below.refl _ _) _) (Nat.le_refl _)).more (by simp))).mono ?_; rw [HE.out]; rintro e w1 ⟨rfl, hb⟩
    go_wp2_with fail
    refine (ref_Day _ _).mono ?_; rw [hd]; rintro e w2 ⟨rfl, rfl⟩
    go_wp2_with fail
    go_ret
    exact ⟨ret_int (by rw [ho.out]), by (repeat' (first | exact Below.refl _ _ | assumption | refine Below.drew ?_ | refine below_drewN ?_ _ | refine below_new ?_ _ | refine below_set ?_ ?_ _ | refine below_then ?_ (by assumption) | refine below_drawn ?_ (by assumption) | exact Nat.le_refl _ | omega | (simp; done) | (simp; omega)))⟩
  by_cases hne : n3 ≠ n1
  · have ho := Lib.hid (show argErr xs ys zs d = 8 by rw [argErr, if_neg (by simp [q]), if_neg (by simp [hd]), if_pos (by omega)])
    have hb1 : ((n3 : Int) != (n1 : Int)) = true := by simp; omega
    clear q l1 l2 l3 hne
    go_enter Try.func13, Try.ntmps13
    go_wp2_with fail
    refine (ref_SetError _ _ _ _ _ _ _ xs ys ((H1.out.below (below_new (Below.refl _ _) _) (Nat.le_refl _)).more (by simp)) ((H2.out.below (below_new (Below.refl _ _) _) (Nat.le_refl _)).more (by simp))).mono ?_; rw [HE.out]; rintro e w1 ⟨rfl, hb⟩
    have a0 := (At.new w (.cells #[.slice a1 n1 c1, .slice a2 n2 c2] 24)).then_ hb
    have b0 : Below w.heap.size w w1 := by (repeat' (first | exact Below.refl _ _ | assumption | refine Below.drew ?_ | refine below_drewN ?_ _ | refine below_new ?_ _ | refine below_set ?_ ?_ _ | refine below_then ?_ (by assumption) | refine below_drawn ?_ (by assumption) | exact Nat.le_refl _ | omega | (simp; done) | (simp; omega)))
    clear hb
    have d0 := a0.cell 0; have d1 := a0.cell 1; simp at d0 d1
    have hlt := a0.lt
    go_wp2_with fail
    refine (ref_Day _ _).mono ?_; rw [hd]; rintro e w2 ⟨rfl, rfl⟩
    go_wp2_with fail
    go_ret
    exact ⟨ret_int (by rw [ho.out]), by (repeat' (first | exact Below.refl _ _ | assumption | refine Below.drew ?_ | refine below_drewN ?_ _ | refine below_new ?_ _ | refine below_set ?_ ?_ _ | refine below_then ?_ (by assumption) | refine below_drawn ?_ (by assumption) | exact Nat.le_refl _ | omega | (simp; done) | (simp; omega)))⟩
  obtain rfl : n3 = n1 := by omega
  have ho := Lib.hid (show argErr xs ys zs d = if plaAll xs zs then 0 else 1 by rw [argErr, if_neg (by simp [q]), if_neg (by simp [hd]), if_neg (by omega)])
  have L1 := Lib.hid l1; have L3 := Lib.hid l3
  clear q hne l1 l2 l3
  go_enter Try.func13, Try.ntmps13
  go_wp2_with fail
  refine (ref_SetError _ _ _ _ _ _ _ xs ys ((H1.out.below (below_new (Below.refl _ _) _) (Nat.le_refl _)).more (by simp)) ((H2.out.below (below_new (Below.refl _ _) _) (Nat.le_refl _)).more (by simp))).mono ?_; rw [HE.out]; rintro e w1 ⟨rfl, hb⟩
  have a0 := (At.new w (.cells #[.slice a1 n3 c1, .slice a2 n2 c2] 24)).then_ hb
  have b0 : Below w.heap.size w w1 := by (repeat' (first | exact Below.refl _ _ | assumption | refine Below.drew ?_ | refine below_drewN ?_ _ | refine below_new ?_ _ | refine below_set ?_ ?_ _ | refine below_then ?_ (by assumption) | refine below_drawn ?_ (by assumption) | exact Nat.le_refl _ | omega | (simp; done) | (simp; omega)))
  clear hb
  have d0 := a0.cell 0; have d1 := a0.cell 1; simp at d0 d1
  have hlt := a0.lt
  go_wp2_with fail
  refine (ref_Day _ _).mono ?_; rw [hd]; rintro e w2 ⟨rfl, rfl⟩
  go_wp2_with fail
  clear d0 d1
  go_loopw [8, 9, 26] (fun _ _ i wr => ∃ k : Nat, k ≤ n3 ∧ i = .int .i64 k ∧ (∀ j x z, j < k → xs[j]? = some x → zs[j]? = some z → 0 ≤ z ∧ z < x) ∧ At wr w.heap.size (.cells #[.slice a1 n3 c1, .slice a2 n2 c2] 24) ∧ Below w.heap.size w wr) (fun _ _ i _ => n3 - (intOf i).toNat)
  case atStart => exact ⟨0, by omega, rfl, fun j x z h => absurd h (by omega), a0, b0⟩
  case round =>
    clear a0 b0 hlt
    obtain ⟨k, hk, rfl, hall, a0, b0⟩ := hrel
    have HA := Lib.hid hall; clear hall
    have hltw := a0.lt
    by_cases hlt : k < n3
    · obtain ⟨b1, o1, x, rfl, hb1, hc1, hx, x1, x2⟩ := (H1.out.below b0 (Nat.le_refl _)).at_ hlt
      obtain ⟨b3, o3, z, rfl, hb3, hc3, hz, z1, z2⟩ := (H3.out.below b0 (Nat.le_refl _)).at_ hlt
      have HX := Lib.hid hx; have HZ := Lib.hid hz; clear hx hz
      have d0 := a0.cell 0; have d1 := a0.cell 1; simp at d0 d1
      have hx1 := OK.out.each k x
      obtain ⟨y, hy⟩ : ∃ y, ys[k]? = some y := ⟨_, List.getElem?_eq_getElem (by have := OK.out.len; have := L1.out; omega)⟩
      have hx0 := (hx1 y HX.out hy).1
      clear hx1 hy
      have t0 : IntKind.i64.wrap (x - 1) = x - 1 := IntWalk.i64_in _ (by omega)
      by_cases hok : 0 ≤ z ∧ z < x
      · obtain ⟨q1, q2⟩ := hok
        have hin := inB_yes q1 (show z ≤ x - 1 by omega)
        go_wp2_with fail
        refine (ref_In _ _ _ _).mono ?_; rw [hin]; rintro e w2 ⟨rfl, rfl⟩
        go_wp2_with fail
        go_roundw
        case rel =>
          refine ⟨k + 1, by omega, by go_num, fun j x' z' hj hx' hz' => ?_, a0, b0⟩
          by_cases hjk : j = k
          · subst hjk
            have e1 := hx'.symm.trans HX.out
            have e2 := hz'.symm.trans HZ.out
            injection e1 with e1; injection e2 with e2
            subst e1 e2
            exact ⟨q1, q2⟩
          · exact HA.out j x' z' (by omega) hx' hz'
        case measure => simp [intOf]; omega
      · have HB := Lib.hid (plaAll_bad k xs zs HX.out HZ.out hok)
        have hin : inB 0 (x - 1) z = false := inB_no (by omega)
        clear hok
        go_wp2_with fail
        refine (ref_In _ _ _ _).mono ?_; rw [hin]; rintro e w2 ⟨rfl, rfl⟩
        go_wp2_with fail
        go_ret
        exact ⟨ret_int (by rw [ho.out, HB.out]; rfl), b0⟩
    · go_wp2_with fail
      go_ret
      have hg := plaAll_good xs zs (fun j x z hx hz => HA.out j x z (by have := (List.getElem?_eq_some_iff.1 hx).1; have := L1.out; omega) hx hz)
      exact ⟨ret_int (by rw [ho.out, hg]; rfl), b0⟩
end Go.Proofs.Ytkeicdimkmmnfaa
