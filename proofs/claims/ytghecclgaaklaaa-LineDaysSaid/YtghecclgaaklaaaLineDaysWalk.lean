/- LineDays: the Go text returns true at every input, and writes nothing that was there. -/
import Derived.Test.YtghecclgaaklaaaDate3
import Derived.Test.YtghecclgaaklaaaRows2
namespace Go.Proofs.Ytghecclgaaklaaa.lineDaysLaw
set_option linter.unusedVariables false
set_option maxRecDepth 100000
open Go.RowKit Go.ChangeShapes Go.WideShapes greg

theorem lit : dayOut 2024 2 29 = .tuple #[.int .i64 738945, .int .i64 0] := by
  rw [dayOut, if_neg (by decide), if_neg (by decide), show num 2024 2 29 = 738945 by decide]
set_option maxHeartbeats 1000000 in
theorem core (y m d : Int) (w : World) (m1 : -9223372036854775808 ≤ m) (m2 : m ≤ 9223372036854775807) (d1 : -9223372036854775808 ≤ d) (d2 : d ≤ 9223372036854775807) :
    Calls Try.prog 3 #[.agg #[.int .i64 y, .int .i64 m, .int .i64 d]] w fun e w' => e = .returned (.bool true) ∧ Below w.heap.size w w' := by
  go_enter Try.func3, Try.ntmps3
  go_wp2_with fail
  refine (line_Day 2024 2 29 _ (by omega) (by omega) (by omega) (by omega)).mono ?_
  rw [lit]
  rintro e w1 ⟨rfl, hb1⟩
  have a1 := (At.new w (.cells #[.int .i64 y, .int .i64 m, .int .i64 d] 23)).then_ hb1
  have b1 : Below w.heap.size w w1 := by (repeat' (first | exact Below.refl _ _ | assumption | refine Below.drew ?_ | refine below_drewN ?_ _ | refine below_new ?_ _ | refine below_set ?_ ?_ _ | refine below_then ?_ (by assumption) | refine below_drawn ?_ (by assumption) | exact Nat.le_refl _ | omega | (simp; done) | (simp; omega)))
  clear hb1
  have c0 := a1.cell 0; have c1 := a1.cell 1; have c2 := a1.cell 2
  simp at c0 c1 c2
  go_wp2_with fail
  refine (line_Day y m d _ m1 m2 d1 d2).mono ?_
  clear c0 c1 c2
  rcases inB_cases (-10000) 10000 y with ⟨hy, y1, y2⟩ | ⟨hy, hy'⟩
  case inr =>
    rw [dayOut, if_pos hy]
    rintro e w2 ⟨rfl, hb2⟩
    replace a1 := a1.then_ hb2
    replace b1 := below_then b1 hb2
    clear hb2
    have c0 := a1.cell 0; have c1 := a1.cell 1; have c2 := a1.cell 2
    simp at c0 c1 c2
    go_wp2_with fail
    refine (ref_In _ _ _ _).mono ?_; rw [hy]; rintro e w3 ⟨rfl, rfl⟩
    go_wp2_with fail
    go_ret
    exact ⟨rfl, b1⟩
  have hyn : ¬ inB (-10000) 10000 y = false := by rw [hy]; simp
  rcases validB_cases y m d with ⟨hv, hV⟩ | ⟨hv, hV⟩
  case inr =>
    rw [dayOut, if_neg hyn, if_pos hv]
    rintro e w2 ⟨rfl, hb2⟩
    replace a1 := a1.then_ hb2
    replace b1 := below_then b1 hb2
    clear hb2 hyn
    have c0 := a1.cell 0; have c1 := a1.cell 1; have c2 := a1.cell 2
    simp at c0 c1 c2
    rcases inB_cases 1 31 d with ⟨hd, e1, e2⟩ | ⟨hd, hd'⟩
    · go_wp2_with fail
      refine (ref_In _ _ _ _).mono ?_; rw [hy]; rintro e w3 ⟨rfl, rfl⟩
      go_wp2_with fail
      refine (ref_In _ _ _ _).mono ?_; rw [hd]; rintro e w3 ⟨rfl, rfl⟩
      go_wp2_with fail
      refine (ref_GregExists _ _ _ _ y1 y2 e1 e2).mono ?_; rw [hv]; rintro e w3 ⟨rfl, hb3⟩
      go_wp2_with fail
      go_ret
      exact ⟨rfl, by (repeat' (first | exact Below.refl _ _ | assumption | refine Below.drew ?_ | refine below_drewN ?_ _ | refine below_new ?_ _ | refine below_set ?_ ?_ _ | refine below_then ?_ (by assumption) | refine below_drawn ?_ (by assumption) | exact Nat.le_refl _ | omega | (simp; done) | (simp; omega)))⟩
    · go_wp2_with fail
      refine (ref_In _ _ _ _).mono ?_; rw [hy]; rintro e w3 ⟨rfl, rfl⟩
      go_wp2_with fail
      refine (ref_In _ _ _ _).mono ?_; rw [hd]; rintro e w3 ⟨rfl, rfl⟩
      go_wp2_with fail
      go_ret
      exact ⟨rfl, by (repeat' (first | exact Below.refl _ _ | assumption | refine Below.drew ?_ | refine below_drewN ?_ _ | refine below_new ?_ _ | refine below_set ?_ ?_ _ | refine below_then ?_ (by assumption) | refine below_drawn ?_ (by assumption) | exact Nat.le_refl _ | omega | (simp; done) | (simp; omega)))⟩
  rw [dayOut, if_neg hyn, if_neg (by rw [hv]; simp)]
  rintro e w2 ⟨rfl, hb2⟩
  replace a1 := a1.then_ hb2
  replace b1 := below_then b1 hb2
  clear hb2 hyn
  have hg := Lib.hid (show gregDay y m d = num y m d by rw [gregDay, hv]; rfl)
  have e1 := hV.2.2.1
  have e2 : d ≤ 31 := by
    have h4 := hV.2.2.2
    have : lenN (leapI y) m.toNat ≤ 31 := by
      unfold lenN
      cases Nat.beq m.toNat 2 <;> cases leapI y <;> cases (Nat.beq m.toNat 4 || Nat.beq m.toNat 6 || Nat.beq m.toNat 9 || Nat.beq m.toNat 11) <;> simp
    omega
  have hd := inB_yes e1 e2
  have c0 := a1.cell 0; have c1 := a1.cell 1; have c2 := a1.cell 2
  simp at c0 c1 c2
  go_wp2_with fail
  refine (ref_In _ _ _ _).mono ?_; rw [hy]; rintro e w3 ⟨rfl, rfl⟩
  go_wp2_with fail
  refine (ref_In _ _ _ _).mono ?_; rw [hd]; rintro e w3 ⟨rfl, rfl⟩
  go_wp2_with fail
  refine (ref_GregExists _ _ _ _ y1 y2 e1 e2).mono ?_; rw [hv]; rintro e w3 ⟨rfl, hb3⟩
  replace a1 := a1.then_ hb3
  replace b1 := below_then b1 hb3
  clear hb3 c0 c1 c2
  have c0 := a1.cell 0; have c1 := a1.cell 1; have c2 := a1.cell 2
  simp at c0 c1 c2
  go_wp2_with fail
  refine (ref_GregDay _ _ _ _ y1 y2 hV.1 hV.2.1 e1 e2).mono ?_; rw [hg.out]; rintro e w4 ⟨rfl, hb4⟩
  go_wp2_with fail
  go_ret
  exact ⟨rfl, by (repeat' (first | exact Below.refl _ _ | assumption | refine Below.drew ?_ | refine below_drewN ?_ _ | refine below_new ?_ _ | refine below_set ?_ ?_ _ | refine below_then ?_ (by assumption) | refine below_drawn ?_ (by assumption) | exact Nat.le_refl _ | omega | (simp; done) | (simp; omega)))⟩
theorem walk {H : Type} {enc : TypeId × Value → H} {v0 : Value} {d0 : DataW H} {p0 : List MemPlace} {base : Nat} (W : World)
    (o0 : Value.okWide Try.prog W .any base 23 v0) (h0 : DataW.Trod enc Try.prog W 0 (fun _ => true) true 23 v0 d0 p0) :
    Calls Try.prog 3 #[v0] W fun e w' => e = .returned (.bool true) ∧ Below W.heap.size W w' := by
  obtain ⟨cs, n, rfl, hl, hf⟩ := open_agg Try.underlying23 (by kernel_rfl) (by kernel_rfl) o0 h0
  match cs, hl with
  | [v0, v1, v2], _ =>
    obtain ⟨_, _, e0, t0⟩ := hf 0 _ rfl
    obtain ⟨_, _, e1, t1⟩ := hf 1 _ rfl
    obtain ⟨_, _, e2, t2⟩ := hf 2 _ rfl
    obtain ⟨x0, rfl, hx0⟩ := open_num t0
    obtain ⟨x1, rfl, hx1⟩ := open_num t1
    obtain ⟨x2, rfl, hx2⟩ := open_num t2
    simp at e0 e1 e2
    subst e0 e1 e2
    exact core x0 x1 x2 W hx1.1 hx1.2 hx2.1 hx2.2
end Go.Proofs.Ytghecclgaaklaaa.lineDaysLaw
