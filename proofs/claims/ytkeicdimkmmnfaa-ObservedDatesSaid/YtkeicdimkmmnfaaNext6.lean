/- Contract of cycle.Next; places and days. -/
import Derived.Test.YtkeicdimkmmnfaaNext5
import Derived.Test.YtkeicdimkmmnfaaNext2
namespace Go.Proofs.Ytkeicdimkmmnfaa
set_option linter.unusedVariables false
set_option maxRecDepth 100000
open Go.RowKit

theorem argErr_zero {xs ys zs : List Int} {d : Int} (h : argErr xs ys zs d = 0) : setErr xs ys = 0 ∧ inB (-4000000) 4000000 d = true ∧ zs.length = xs.length ∧ plaAll xs zs = true := by
  unfold argErr at h
  by_cases h1 : setErr xs ys = 0
  · rw [if_neg (by simp [h1])] at h
    by_cases h2 : inB (-4000000) 4000000 d = false
    · rw [if_pos h2] at h; omega
    · rw [if_neg h2] at h
      by_cases h3 : zs.length ≠ xs.length
      · rw [if_pos h3] at h; omega
      · rw [if_neg h3] at h
        by_cases h4 : plaAll xs zs = true
        · exact ⟨h1, by simpa using h2, by omega, h4⟩
        · rw [if_neg h4] at h; omega
  · rw [if_pos h1] at h; exact absurd h h1
theorem fits_places {xs ys zs : List Int} {n : Nat} {d : Int} (l1 : xs.length = n) (l2 : ys.length = n) (l3 : zs.length = n) : (places d xs ys == zs) = true ↔ Fits xs ys zs n d := by
  rw [beq_iff_eq]
  constructor
  · rintro h j x y z hj hx hy hz
    have := places_at d j xs ys x y hx hy
    rw [h, hz] at this
    injection this with this
    exact this.symm
  · intro h
    apply List.ext_getElem?
    intro j
    by_cases hj : j < n
    · have hx := List.getElem?_eq_getElem (show j < xs.length by omega)
      have hy := List.getElem?_eq_getElem (show j < ys.length by omega)
      have hz := List.getElem?_eq_getElem (show j < zs.length by omega)
      rw [places_at d j xs ys _ _ hx hy, hz, h j _ _ _ hj hx hy hz]
    · rw [List.getElem?_eq_none (by rw [places_len d xs ys (by omega)]; omega), List.getElem?_eq_none (by omega)]
/-- What Next returns. -/
def NextRet (n : Nat) (xs ys zs : List Int) (day : Int) (e : Ending) : Prop :=
  (∃ d, day ≤ d ∧ d ≤ 4000000 ∧ Fits xs ys zs n d ∧ (∀ d', day ≤ d' → d' < d → ¬ Fits xs ys zs n d') ∧ e = .returned (.tuple #[.int .i64 d, .int .i64 0])) ∨
  ((∀ d', day ≤ d' → d' ≤ 4000000 → ¬ Fits xs ys zs n d') ∧ e = .returned (.tuple #[.int .i64 0, .int .i64 6]))
theorem cycle_Next_err (w : World) (a1 a2 : Option Addr) (n1 c1 n2 c2 : Nat) (xs ys : List Int) (d : Int) (a3 : Option Addr) (n3 c3 : Nat) (zs : List Int) (q : argErr xs ys zs d ≠ 0) (h1 : Ints w w.heap.size a1 n1 xs) (h2 : Ints w w.heap.size a2 n2 ys) (h3 : Ints w w.heap.size a3 n3 zs) :
    Calls Try.prog 12 #[.agg #[.slice a1 n1 c1, .slice a2 n2 c2], .int .i64 d, .slice a3 n3 c3] w fun e w' => e = .returned (.tuple #[.int .i64 0, .int .i64 (argErr xs ys zs d)]) ∧ Below w.heap.size w w' := by
  have H1 := Lib.hid h1; have H2 := Lib.hid h2; have H3 := Lib.hid h3; clear h1 h2 h3
  obtain ⟨E, hE⟩ : ∃ E, E = argErr xs ys zs d := ⟨_, rfl⟩
  rw [← hE] at q ⊢
  have HE := Lib.hid hE; clear hE
  have q' : (E != 0) = true := by simpa using q
  clear q
  go_enter Try.func12, Try.ntmps12
  go_wp2_with fail
  refine (cycle_check _ _ _ _ _ _ _ xs ys d _ _ _ zs ((H1.out.below (below_new (Below.refl _ _) _) (Nat.le_refl _)).more (by simp)) ((H2.out.below (below_new (Below.refl _ _) _) (Nat.le_refl _)).more (by simp)) ((H3.out.below (below_new (Below.refl _ _) _) (Nat.le_refl _)).more (by simp))).mono ?_; rw [← HE.out]; rintro e w1 ⟨rfl, hb⟩
  go_wp2_with fail
  go_ret2
  exact ⟨rfl, by (repeat' (first | exact Below.refl _ _ | assumption | refine Below.drew ?_ | refine below_drewN ?_ _ | refine below_new ?_ _ | refine below_set ?_ ?_ _ | refine below_then ?_ (by assumption) | refine below_drawn ?_ (by assumption) | exact Nat.le_refl _ | omega | (simp; done) | (simp; omega)))⟩
set_option maxHeartbeats 1000000 in
theorem cycle_Next_ok (w : World) (a1 a2 : Option Addr) (n1 c1 n2 c2 : Nat) (xs ys : List Int) (d : Int) (a3 : Option Addr) (n3 c3 : Nat) (zs : List Int) (q : argErr xs ys zs d = 0) (h1 : Ints w w.heap.size a1 n1 xs) (h2 : Ints w w.heap.size a2 n2 ys) (h3 : Ints w w.heap.size a3 n3 zs) :
    Calls Try.prog 12 #[.agg #[.slice a1 n1 c1, .slice a2 n2 c2], .int .i64 d, .slice a3 n3 c3] w fun e w' => NextRet n1 xs ys zs d e ∧ Below w.heap.size w w' := by
  obtain ⟨q1, q2, q3, q4⟩ := argErr_zero q
  have ok := setOk_of q1
  have hd : -4000000 ≤ d ∧ d ≤ 4000000 := by
    rcases inB_cases (-4000000) 4000000 d with ⟨_, h⟩ | ⟨h, _⟩
    · exact h
    · rw [h] at q2; cases q2
  have e2 : n2 = n1 := by have := ok.len; have := h1.1; have := h2.1; omega
  have e3 : n3 = n1 := by have := h1.1; have := h3.1; omega
  subst e2 e3
  have H1 := Lib.hid h1; have H2 := Lib.hid h2; have H3 := Lib.hid h3; have HE := Lib.hid q; have OK := Lib.hid ok; have Q3 := Lib.hid q3; have Q4 := Lib.hid q4; have HD := Lib.hid hd
  clear h1 h2 h3 q q1 q2 q3 q4 ok hd
  go_enter Try.func12, Try.ntmps12
  go_wp2_with fail
  refine (cycle_check _ _ _ _ _ _ _ xs ys d _ _ _ zs ((H1.out.below (below_new (Below.refl _ _) _) (Nat.le_refl _)).more (by simp)) ((H2.out.below (below_new (Below.refl _ _) _) (Nat.le_refl _)).more (by simp)) ((H3.out.below (below_new (Below.refl _ _) _) (Nat.le_refl _)).more (by simp))).mono ?_; rw [HE.out]; rintro e w1 ⟨rfl, hb⟩
  have a0 := (At.new w (.cells #[.slice a1 n3 c1, .slice a2 n3 c2] 24)).then_ hb
  have b0 : Below w.heap.size w w1 := by (repeat' (first | exact Below.refl _ _ | assumption | refine Below.drew ?_ | refine below_drewN ?_ _ | refine below_new ?_ _ | refine below_set ?_ ?_ _ | refine below_then ?_ (by assumption) | refine below_drawn ?_ (by assumption) | exact Nat.le_refl _ | omega | (simp; done) | (simp; omega)))
  clear hb
  have d0 := a0.cell 0; have d1 := a0.cell 1; simp at d0 d1
  go_wp2_with fail
  refine (cycle_open _ _ _ _ _ _ _ xs ys _ _ _ zs OK.out Q3.out Q4.out ((H1.out.below b0 (Nat.le_refl _)).more b0.size) ((H2.out.below b0 (Nat.le_refl _)).more b0.size) ((H3.out.below b0 (Nat.le_refl _)).more b0.size)).mono ?_
  rintro e w2 ⟨ho, hb⟩
  replace b0 := below_then b0 hb
  clear hb d0 d1 a0
  rcases ho with ⟨k, a, m, rfl, hno⟩ | ⟨k, a, m, hk, hj, hm, rfl⟩
  · have NO := Lib.hid hno; clear hno
    go_wp2_with fail
    go_ret2
    exact ⟨Or.inr ⟨fun d' _ _ => NO.out d', rfl⟩, by (repeat' (first | exact Below.refl _ _ | assumption | refine Below.drew ?_ | refine below_drewN ?_ _ | refine below_new ?_ _ | refine below_set ?_ ?_ _ | refine below_then ?_ (by assumption) | refine below_drawn ?_ (by assumption) | exact Nat.le_refl _ | omega | (simp; done) | (simp; omega)))⟩
  · have HJ := Lib.hid hj; clear hj
    go_wp2_with fail
    refine (cycle_next _ _ _ _ _ _ _ _ xs ys zs k a m d hk HJ.out hm (by have := HD.out; omega) (by have := HD.out; omega) OK.out Q3.out Q4.out ((H1.out.below (below_new b0 _) (Nat.le_refl _)).more (below_new b0 _).size) ((H2.out.below (below_new b0 _) (Nat.le_refl _)).more (below_new b0 _).size) ((H3.out.below (below_new b0 _) (Nat.le_refl _)).more (below_new b0 _).size)).mono ?_
    rintro e w3 ⟨ho, hb⟩
    replace b0 := below_then (below_new b0 _) hb
    clear hb
    rcases ho with ⟨D, e1, e2, hf, hn, rfl⟩ | ⟨hn, rfl⟩
    · have HF := Lib.hid hf; have HN := Lib.hid hn; clear hf hn
      go_wp2_with fail
      go_ret2
      exact ⟨Or.inl ⟨D, e1, e2, HF.out, HN.out, rfl⟩, b0⟩
    · have HN := Lib.hid hn; clear hn
      go_wp2_with fail
      go_ret2
      exact ⟨Or.inr ⟨HN.out, rfl⟩, b0⟩
end Go.Proofs.Ytkeicdimkmmnfaa
