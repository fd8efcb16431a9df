/- Contracts of lunisolar.Months and lunisolar.Begin. -/
import Derived.Test.YtjjmbnflhldoeaaLuni4
import Derived.Test.YtjjmbnflhldoeaaArith3
namespace Go.Proofs.Ytjjmbnflhldoeaa
set_option linter.unusedVariables false
set_option maxRecDepth 100000
open Go.RowKit

theorem moonErrY_err {e y : Int} (h : e ≠ 0) : moonErrY e y = e := by rw [moonErrY, if_pos h]
theorem moonErrY_range {y : Int} (h : inB (-10000) 10000 y = false) : moonErrY 0 y = 3 := by rw [moonErrY, if_neg (by simp), if_pos h]
theorem moonErrY_ok {y : Int} (h : inB (-10000) 10000 y = true) : moonErrY 0 y = 0 := by rw [moonErrY, if_neg (by simp), if_neg (by simp [h])]
theorem beginD_at {f sn sd mn md ln ld c N : Int} {ls vs : List Int} {y m : Int} (h : m ≤ mths c ls y) : beginD f sn sd mn md ln ld c N ls vs y m = begD f sn sd mn md ln ld c N ls vs y m := by
  unfold beginD; rw [if_neg (by omega)]
theorem lunisolar_Months_err (w : World) (s : ByteArray) (f sn sd mn md ln ld c : Int) (a1 a2 : Option Addr) (n1 c1 n2 c2 : Nat) (ls vs : List Int) (y : Int) (hs : s.size ≤ 9223372036854775807) (hi : MoonI sn sd mn md ln ld) (h : MoonAt w a1 a2 n1 n2 ls vs) (q : moonErrY (moonErr s f sn sd mn md ln ld c ls vs) y ≠ 0) :
    Calls Try.prog 36 #[.agg #[.string s, .int .i64 f, .int .i64 sn, .int .i64 sd, .int .i64 mn, .int .i64 md, .int .i64 ln, .int .i64 ld, .int .i64 c, .slice a1 n1 c1, .slice a2 n2 c2], .int .i64 y] w fun e w' => e = .returned (.tuple #[.int .i64 0, .int .i64 (moonErrY (moonErr s f sn sd mn md ln ld c ls vs) y)]) ∧ Below w.heap.size w w' := by
  have H := Lib.hid h; clear h
  obtain ⟨E, hE⟩ : ∃ E, E = moonErrY (moonErr s f sn sd mn md ln ld c ls vs) y := ⟨_, rfl⟩
  rw [← hE] at q ⊢
  have HE := Lib.hid hE; clear hE
  have q' : (E != 0) = true := by simpa using q
  clear q
  go_enter Try.func36, Try.ntmps36
  go_wp2_with fail
  refine (lunisolar_check _ s f sn sd mn md ln ld c a1 a2 n1 c1 n2 c2 ls vs y hs hi (H.out.then_ (below_new (Below.refl _ _) _))).mono ?_
  rw [← HE.out]
  rintro e w1 ⟨rfl, hb⟩
  go_wp2_with fail
  go_ret2
  exact ⟨rfl, by (repeat' (first | exact Below.refl _ _ | assumption | refine Below.drew ?_ | refine below_drewN ?_ _ | refine below_new ?_ _ | refine below_set ?_ ?_ _ | refine below_then ?_ (by assumption) | refine below_drawn ?_ (by assumption) | exact Nat.le_refl _ | omega | (simp; done) | (simp; omega)))⟩
theorem lunisolar_Months_ok (w : World) (s : ByteArray) (f sn sd mn md ln ld c : Int) (a1 a2 : Option Addr) (n1 c1 n2 c2 : Nat) (ls vs : List Int) (N y : Int) (hs : s.size ≤ 9223372036854775807) (hi : MoonI sn sd mn md ln ld) (h : MoonAt w a1 a2 n1 n2 ls vs) (q : moonErr s f sn sd mn md ln ld c ls vs = 0) (ok : MoonOk s f sn sd mn md ln ld c ls vs N) (hy : inB (-10000) 10000 y = true) :
    Calls Try.prog 36 #[.agg #[.string s, .int .i64 f, .int .i64 sn, .int .i64 sd, .int .i64 mn, .int .i64 md, .int .i64 ln, .int .i64 ld, .int .i64 c, .slice a1 n1 c1, .slice a2 n2 c2], .int .i64 y] w fun e w' => e = .returned (.tuple #[.int .i64 (mths c ls y), .int .i64 0]) ∧ Below w.heap.size w w' := by
  have H := Lib.hid h; clear h
  have HE := Lib.hid (show moonErrY (moonErr s f sn sd mn md ln ld c ls vs) y = 0 by rw [q, moonErrY_ok hy])
  have OK := Lib.hid ok
  have hy2 := inB_iff.1 hy
  clear q ok hy
  go_enter Try.func36, Try.ntmps36
  go_wp2_with fail
  refine (lunisolar_check _ s f sn sd mn md ln ld c a1 a2 n1 c1 n2 c2 ls vs y hs hi (H.out.then_ (below_new (Below.refl _ _) _))).mono ?_
  rw [HE.out]
  rintro e w1 ⟨rfl, hb⟩
  have on := (OneM.new w (.cells #[.string s, .int .i64 f, .int .i64 sn, .int .i64 sd, .int .i64 mn, .int .i64 md, .int .i64 ln, .int .i64 ld, .int .i64 c, .slice a1 n1 c1, .slice a2 n2 c2] 42)).step hb
  clear hb
  obtain ⟨x0, x1, x2, x3, x4, x5, x6, x7, x8, x9, x10⟩ := on.cells
  go_wp2_with fail
  refine (lunisolar_months _ s f sn sd mn md ln ld c a1 a2 n1 c1 n2 c2 ls vs N y OK.out (by omega) (by omega) (H.out.then_ on.below)).mono ?_
  rintro e w2 ⟨rfl, hb⟩
  replace on := on.step hb
  go_wp2_with fail
  go_ret2
  exact ⟨rfl, on.below⟩
end Go.Proofs.Ytjjmbnflhldoeaa
