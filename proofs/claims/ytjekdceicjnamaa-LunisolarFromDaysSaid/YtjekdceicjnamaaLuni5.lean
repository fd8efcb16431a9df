/- Contracts of lunisolar.Months and lunisolar.Begin. -/
import Derived.Test.YtjekdceicjnamaaLuni4
import Derived.Test.YtjekdceicjnamaaArith3
namespace Go.Proofs.Ytjekdceicjnamaa
set_option linter.unusedVariables false
set_option maxRecDepth 100000
open Go.RowKit

theorem moonErrY_err {e y : Int} (h : e ≠ 0) : moonErrY e y = e := by rw [moonErrY, if_pos h]
theorem moonErrY_range {y : Int} (h : inB (-10000) 10000 y = false) : moonErrY 0 y = 3 := by rw [moonErrY, if_neg (by simp), if_pos h]
theorem moonErrY_ok {y : Int} (h : inB (-10000) 10000 y = true) : moonErrY 0 y = 0 := by rw [moonErrY, if_neg (by simp), if_neg (by simp [h])]
theorem beginD_at {f sn sd mn md ln ld c N : Int} {ls vs : List Int} {y m : Int} (h : m ≤ mths c ls y) : beginD f sn sd mn md ln ld c N ls vs y m = begD f sn sd mn md ln ld c N ls vs y m := by
  unfold beginD; rw [if_neg (by omega)]
theorem lunisolar_Months_err (w : World) (s : ByteArray) (f sn sd mn md ln ld c : Int) (a1 a2 : Option Addr) (n1 c1 n2 c2 : Nat) (ls vs : List Int) (y : Int) (hs : s.size ≤ 9223372036854775807) (hi : MoonI sn sd mn md ln ld) (h : MoonAt w a1 a2 n1 n2 ls vs) (q : moonErrY (moonErr s f sn sd mn md ln ld c ls vs) y ≠ 0) :
    Calls Try.prog 13 #[.agg #[.string s, .int .i64 f, .int .i64 sn, .int .i64 sd, .int .i64 mn, .int .i64 md, .int .i64 ln, .int .i64 ld, .int .i64 c, .slice a1 n1 c1, .slice a2 n2 c2], .int .i64 y] w fun e w' => e = .returned (.tuple #[.int .i64 0, .int .i64 (moonErrY (moonErr s f sn sd mn md ln ld c ls vs) y)]) ∧ Below w.heap.size w w' := by
  have H := Lib.hid h; clear h
  obtain ⟨E, hE⟩ : ∃ E, E = moonErrY (moonErr s f sn sd mn md ln ld c ls vs) y := ⟨_, rfl⟩
  rw [← hE] at q ⊢
  have HE := Lib.hid hE; clear hE
  have q' : (E != 0) = true := by simpa using q
  clear q
  go_enter Try.func13, Try.ntmps13
  go_wp2_with fail
  refine (lunisolar_check _ s f sn sd mn md ln ld c a1 a2 n1 c1 n2 c2 ls vs y hs hi (H.out.then_ (below_new (Below.refl _ _) _))).mono ?_
  rw [← HE.out]
  rintro e w1 ⟨rfl, hb⟩
  go_wp2_with fail
  go_ret2
  exact ⟨rfl, by (repeat' (first | exact Below.refl _ _ | assumption | refine Below.drew ?_ | refine below_drewN ?_ _ | refine below_new ?_ _ | refine below_set ?_ ?_ _ | refine below_then ?_ (by assumption) | refine below_drawn ?_ (by assumption) | exact Nat.le_refl _ | omega | (simp; done) | (simp; omega)))⟩
theorem lunisolar_Months_ok (w : World) (s : ByteArray) (f sn sd mn md ln ld c : Int) (a1 a2 : Option Addr) (n1 c1 n2 c2 : Nat) (ls vs : List Int) (N y : Int) (hs : s.size ≤ 9223372036854775807) (hi : MoonI sn sd mn md ln ld) (h : MoonAt w a1 a2 n1 n2 ls vs) (q : moonErr s f sn sd mn md ln ld c ls vs = 0) (ok : MoonOk s f sn sd mn md ln ld c ls vs N) (hy : inB (-10000) 10000 y = true) :
    Calls Try.prog 13 #[.agg #[.string s, .int .i64 f, .int .i64 sn, .int .i64 sd, .int .i64 mn, .int .i64 md, .int .i64 ln, .int .i64 ld, .int .i64 c, .slice a1 n1 c1, .slice a2 n2 c2], .int .i64 y] w fun e w' => e = .returned (.tuple #[.int .i64 (mths c ls y), .int .i64 0]) ∧ Below w.heap.size w w' := by
  have H := Lib.hid h; clear h
  have HE := Lib.hid (show moonErrY (moonErr s f sn sd mn md ln ld c ls vs) y = 0 by rw [q, moonErrY_ok hy])
  have OK := Lib.hid ok
  have hy2 := inB_iff.1 hy
  clear q ok hy
  go_enter Try.func13, Try.ntmps13
  go_wp2_with fail
  refine (lunisolar_check _ s f sn sd mn md ln ld c a1 a2 n1 c1 n2 c2 ls vs y hs hi (H.out.then_ (below_new (Below.refl _ _) _))).mono ?_
  rw [HE.out]
  rintro e w1 ⟨rfl, hb⟩
  have on := (OneM.new w (.cells #[.string s, .int .i64 f, .int .i64 sn, .int .i64 sd, .int .i64 mn, .int .i64 md, .int .i64 ln, .int .i64 ld, .int .i64 c, .slice a1 n1 c1, .slice a2 n2 c2] 26)).step hb
  clear hb
  obtain ⟨x0, x1, x2, x3, x4, x5, x6, x7, x8, x9, x10⟩ := on.cells
  go_wp2_with fail
  refine (lunisolar_months _ s f sn sd mn md ln ld c a1 a2 n1 c1 n2 c2 ls vs N y OK.out (by omega) (by omega) (H.out.then_ on.below)).mono ?_
  rintro e w2 ⟨rfl, hb⟩
  replace on := on.step hb
  go_wp2_with fail
  go_ret2
  exact ⟨rfl, on.below⟩
theorem lunisolar_Begin_err (w : World) (s : ByteArray) (f sn sd mn md ln ld c : Int) (a1 a2 : Option Addr) (n1 c1 n2 c2 : Nat) (ls vs : List Int) (y m : Int) (hs : s.size ≤ 9223372036854775807) (hi : MoonI sn sd mn md ln ld) (h : MoonAt w a1 a2 n1 n2 ls vs) (q : moonErrY (moonErr s f sn sd mn md ln ld c ls vs) y ≠ 0) :
    Calls Try.prog 11 #[.agg #[.string s, .int .i64 f, .int .i64 sn, .int .i64 sd, .int .i64 mn, .int .i64 md, .int .i64 ln, .int .i64 ld, .int .i64 c, .slice a1 n1 c1, .slice a2 n2 c2], .int .i64 y, .int .i64 m] w fun e w' => e = .returned (.tuple #[.int .i64 0, .int .i64 (moonErrY (moonErr s f sn sd mn md ln ld c ls vs) y)]) ∧ Below w.heap.size w w' := by
  have H := Lib.hid h; clear h
  obtain ⟨E, hE⟩ : ∃ E, E = moonErrY (moonErr s f sn sd mn md ln ld c ls vs) y := ⟨_, rfl⟩
  rw [← hE] at q ⊢
  have HE := Lib.hid hE; clear hE
  have q' : (E != 0) = true := by simpa using q
  clear q
  go_enter Try.func11, Try.ntmps11
  go_wp2_with fail
  refine (lunisolar_check _ s f sn sd mn md ln ld c a1 a2 n1 c1 n2 c2 ls vs y hs hi (H.out.then_ (below_new (Below.refl _ _) _))).mono ?_
  rw [← HE.out]
  rintro e w1 ⟨rfl, hb⟩
  go_wp2_with fail
  go_ret2
  exact ⟨rfl, by (repeat' (first | exact Below.refl _ _ | assumption | refine Below.drew ?_ | refine below_drewN ?_ _ | refine below_new ?_ _ | refine below_set ?_ ?_ _ | refine below_then ?_ (by assumption) | refine below_drawn ?_ (by assumption) | exact Nat.le_refl _ | omega | (simp; done) | (simp; omega)))⟩
set_option maxHeartbeats 1000000 in
theorem lunisolar_Begin_ok (w : World) (s : ByteArray) (f sn sd mn md ln ld c : Int) (a1 a2 : Option Addr) (n1 c1 n2 c2 : Nat) (ls vs : List Int) (N y m : Int) (hs : s.size ≤ 9223372036854775807) (hi : MoonI sn sd mn md ln ld) (h : MoonAt w a1 a2 n1 n2 ls vs) (q : moonErr s f sn sd mn md ln ld c ls vs = 0) (ok : MoonOk s f sn sd mn md ln ld c ls vs N) (hy : inB (-10000) 10000 y = true) :
    Calls Try.prog 11 #[.agg #[.string s, .int .i64 f, .int .i64 sn, .int .i64 sd, .int .i64 mn, .int .i64 md, .int .i64 ln, .int .i64 ld, .int .i64 c, .slice a1 n1 c1, .slice a2 n2 c2], .int .i64 y, .int .i64 m] w fun e w' => e = .returned (if inB 1 (mths c ls y) m = true then dayOr (begD f sn sd mn md ln ld c N ls vs y m) else .tuple #[.int .i64 0, .int .i64 1]) ∧ Below w.heap.size w w' := by
  have H := Lib.hid h; clear h
  have HE := Lib.hid (show moonErrY (moonErr s f sn sd mn md ln ld c ls vs) y = 0 by rw [q, moonErrY_ok hy])
  have OK := Lib.hid ok
  have hy2 := inB_iff.1 hy
  have hmm := mths_in c ls y
  have HBE := Lib.hid (fun (hm : m ≤ mths c ls y) => beginD_at (f := f) (sn := sn) (sd := sd) (mn := mn) (md := md) (ln := ln) (ld := ld) (N := N) (vs := vs) hm)
  obtain ⟨MM, hMM⟩ : ∃ MM, MM = mths c ls y := ⟨_, rfl⟩
  rw [← hMM] at hmm HBE ⊢
  have HMM := Lib.hid hMM
  clear q ok hy hMM
  rcases inB_cases 1 MM m with ⟨hm, m1, m2⟩ | ⟨hm, hm'⟩
  · rw [if_pos hm]
    have g1 : decide (m < 1) = false := by simp; omega
    have g2 : decide (MM < m) = false := by simp; omega
    clear hm
    have HBB := Lib.hid (HBE.out m2)
    generalize begD f sn sd mn md ln ld c N ls vs y m = D at HBB ⊢
    obtain ⟨u, v, huv, huv2⟩ : ∃ u v, dayOr D = .tuple #[.int .i64 u, .int .i64 v] ∧ ((inB (-4000000) 4000000 D = true ∧ u = D ∧ v = 0) ∨ (inB (-4000000) 4000000 D = false ∧ u = 0 ∧ v = 3)) := by
      unfold dayOr
      cases inB (-4000000) 4000000 D
      · exact ⟨_, _, rfl, .inr ⟨rfl, rfl, rfl⟩⟩
      · exact ⟨_, _, rfl, .inl ⟨rfl, rfl, rfl⟩⟩
    rw [huv]
    clear huv
    go_enter Try.func11, Try.ntmps11
    go_wp2_with fail
    refine (lunisolar_check _ s f sn sd mn md ln ld c a1 a2 n1 c1 n2 c2 ls vs y hs hi (H.out.then_ (below_new (Below.refl _ _) _))).mono ?_
    rw [HE.out]
    rintro e w1 ⟨rfl, hb⟩
    have on := (OneM.new w (.cells #[.string s, .int .i64 f, .int .i64 sn, .int .i64 sd, .int .i64 mn, .int .i64 md, .int .i64 ln, .int .i64 ld, .int .i64 c, .slice a1 n1 c1, .slice a2 n2 c2] 26)).step hb
    clear hb
    obtain ⟨x0, x1, x2, x3, x4, x5, x6, x7, x8, x9, x10⟩ := on.cells
    go_wp2_with fail
    refine (lunisolar_months _ s f sn sd mn md ln ld c a1 a2 n1 c1 n2 c2 ls vs N y OK.out (by omega) (by omega) (H.out.then_ on.below)).mono ?_
    rw [← HMM.out]
    rintro e w2 ⟨rfl, hb⟩
    replace on := on.step hb
    clear hb x0 x1 x2 x3 x4 x5 x6 x7 x8 x9 x10
    obtain ⟨x0, x1, x2, x3, x4, x5, x6, x7, x8, x9, x10⟩ := on.cells
    go_wp2_with fail
    refine (lunisolar_begin _ s f sn sd mn md ln ld c a1 a2 n1 c1 n2 c2 ls vs N y m OK.out (by omega) (by omega) (by omega) (by omega) (H.out.then_ on.below)).mono ?_
    rw [HBB.out]
    rintro e w3 ⟨rfl, hb⟩
    replace on := on.step hb
    clear hb x0 x1 x2 x3 x4 x5 x6 x7 x8 x9 x10
    go_wp2_with fail
    refine (line_Is _ _).mono ?_
    rcases huv2 with ⟨hD, rfl, rfl⟩ | ⟨hD, rfl, rfl⟩
    all_goals
      rw [hD]
      rintro e w4 ⟨rfl, rfl⟩
      go_wp2_with fail
      go_ret2
      exact ⟨rfl, on.below⟩
  · rw [if_neg (by rw [hm]; simp)]
    clear hm
    by_cases hlt : m < 1
    · have g1 : decide (m < 1) = true := by simpa using hlt
      go_enter Try.func11, Try.ntmps11
      go_wp2_with fail
      refine (lunisolar_check _ s f sn sd mn md ln ld c a1 a2 n1 c1 n2 c2 ls vs y hs hi (H.out.then_ (below_new (Below.refl _ _) _))).mono ?_
      rw [HE.out]
      rintro e w1 ⟨rfl, hb⟩
      go_wp2_with fail
      go_ret2
      exact ⟨rfl, by (repeat' (first | exact Below.refl _ _ | assumption | refine Below.drew ?_ | refine below_drewN ?_ _ | refine below_new ?_ _ | refine below_set ?_ ?_ _ | refine below_then ?_ (by assumption) | refine below_drawn ?_ (by assumption) | exact Nat.le_refl _ | omega | (simp; done) | (simp; omega)))⟩
    · have g1 : decide (m < 1) = false := by simpa using hlt
      have g2 : decide (MM < m) = true := by simp; omega
      go_enter Try.func11, Try.ntmps11
      go_wp2_with fail
      refine (lunisolar_check _ s f sn sd mn md ln ld c a1 a2 n1 c1 n2 c2 ls vs y hs hi (H.out.then_ (below_new (Below.refl _ _) _))).mono ?_
      rw [HE.out]
      rintro e w1 ⟨rfl, hb⟩
      have on := (OneM.new w (.cells #[.string s, .int .i64 f, .int .i64 sn, .int .i64 sd, .int .i64 mn, .int .i64 md, .int .i64 ln, .int .i64 ld, .int .i64 c, .slice a1 n1 c1, .slice a2 n2 c2] 26)).step hb
      clear hb
      obtain ⟨x0, x1, x2, x3, x4, x5, x6, x7, x8, x9, x10⟩ := on.cells
      go_wp2_with fail
      refine (lunisolar_months _ s f sn sd mn md ln ld c a1 a2 n1 c1 n2 c2 ls vs N y OK.out (by omega) (by omega) (H.out.then_ on.below)).mono ?_
      rw [← HMM.out]
      rintro e w2 ⟨rfl, hb⟩
      replace on := on.step hb
      clear hb x0 x1 x2 x3 x4 x5 x6 x7 x8 x9 x10
      go_wp2_with fail
      go_ret2
      exact ⟨rfl, on.below⟩
end Go.Proofs.Ytjekdceicjnamaa
