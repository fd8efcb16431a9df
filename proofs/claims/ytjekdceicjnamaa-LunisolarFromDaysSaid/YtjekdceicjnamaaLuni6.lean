/- Contracts of lunisolar.After, lunisolar.ToDay, and the reference's MoonEnd and MoonToDay. -/
import Derived.Test.YtjekdceicjnamaaLuni3
import Derived.Test.YtjekdceicjnamaaLuni5
import Derived.Test.YtjekdceicjnamaaToDay
namespace Go.Proofs.Ytjekdceicjnamaa
set_option linter.unusedVariables false
set_option maxRecDepth 100000
open Go.RowKit

theorem Two.moon {w W : World} {o2 : Obj} {t : TypeId} {v0 v1 v2 v3 v4 v5 v6 v7 v8 v9 v10 : Value} (h : Two w (.cells #[v0, v1, v2, v3, v4, v5, v6, v7, v8, v9, v10] t) o2 W) :
    W.cell? ⟨w.heap.size, 0, none⟩ = some v0 ∧ W.cell? ⟨w.heap.size, 1, none⟩ = some v1 ∧ W.cell? ⟨w.heap.size, 2, none⟩ = some v2 ∧ W.cell? ⟨w.heap.size, 3, none⟩ = some v3 ∧ W.cell? ⟨w.heap.size, 4, none⟩ = some v4 ∧ W.cell? ⟨w.heap.size, 5, none⟩ = some v5 ∧ W.cell? ⟨w.heap.size, 6, none⟩ = some v6 ∧ W.cell? ⟨w.heap.size, 7, none⟩ = some v7 ∧ W.cell? ⟨w.heap.size, 8, none⟩ = some v8 ∧ W.cell? ⟨w.heap.size, 9, none⟩ = some v9 ∧ W.cell? ⟨w.heap.size, 10, none⟩ = some v10 :=
  ⟨h.1.cell 0, h.1.cell 1, h.1.cell 2, h.1.cell 3, h.1.cell 4, h.1.cell 5, h.1.cell 6, h.1.cell 7, h.1.cell 8, h.1.cell 9, h.1.cell 10⟩
set_option maxHeartbeats 1000000 in
theorem lunisolar_After (w : World) (s : ByteArray) (f sn sd mn md ln ld c : Int) (a1 a2 : Option Addr) (n1 c1 n2 c2 : Nat) (ls vs : List Int) (N y m : Int) (ok : MoonOk s f sn sd mn md ln ld c ls vs N) (y1 : -18000 ≤ y) (y2 : y ≤ 18000) (m1 : 1 ≤ m) (m2 : m ≤ 19) (h : MoonAt w a1 a2 n1 n2 ls vs) :
    Calls Try.prog 49 #[.agg #[.string s, .int .i64 f, .int .i64 sn, .int .i64 sd, .int .i64 mn, .int .i64 md, .int .i64 ln, .int .i64 ld, .int .i64 c, .slice a1 n1 c1, .slice a2 n2 c2], .int .i64 y, .int .i64 m] w fun e w' => e = .returned (.tuple #[.int .i64 (beginD f sn sd mn md ln ld c N ls vs y m), .int .i64 (beginD f sn sd mn md ln ld c N ls vs y (m + 1)), .bool (inB (-4000000) 4000000 (beginD f sn sd mn md ln ld c N ls vs y m) && inB (-4000000) 4000000 (beginD f sn sd mn md ln ld c N ls vs y (m + 1)))]) ∧ Below w.heap.size w w' := by
  have fa : ∀ W, Below w.heap.size w W → Calls Try.prog 42 #[.agg #[.string s, .int .i64 f, .int .i64 sn, .int .i64 sd, .int .i64 mn, .int .i64 md, .int .i64 ln, .int .i64 ld, .int .i64 c, .slice a1 n1 c1, .slice a2 n2 c2], .int .i64 y, .int .i64 m] W fun e w' => e = .returned (.int .i64 (beginD f sn sd mn md ln ld c N ls vs y m)) ∧ Below W.heap.size W w' := fun W hW => lunisolar_begin W s f sn sd mn md ln ld c a1 a2 n1 c1 n2 c2 ls vs N y m ok y1 y2 m1 (by omega) (h.then_ hW)
  have fb : ∀ W, Below w.heap.size w W → Calls Try.prog 42 #[.agg #[.string s, .int .i64 f, .int .i64 sn, .int .i64 sd, .int .i64 mn, .int .i64 md, .int .i64 ln, .int .i64 ld, .int .i64 c, .slice a1 n1 c1, .slice a2 n2 c2], .int .i64 y, .int .i64 (m + 1)] W fun e w' => e = .returned (.int .i64 (beginD f sn sd mn md ln ld c N ls vs y (m + 1))) ∧ Below W.heap.size W w' := fun W hW => lunisolar_begin W s f sn sd mn md ln ld c a1 a2 n1 c1 n2 c2 ls vs N y (m + 1) ok y1 y2 (by omega) (by omega) (h.then_ hW)
  generalize beginD f sn sd mn md ln ld c N ls vs y m = A at *
  generalize beginD f sn sd mn md ln ld c N ls vs y (m + 1) = B at *
  have FA := Lib.hid fa; have FB := Lib.hid fb
  have t0 : IntKind.i64.wrap (m + 1) = m + 1 := IntWalk.i64_in _ (by omega)
  clear fa fb h ok
  cases ha : inB (-4000000) 4000000 A <;> cases hb2 : inB (-4000000) 4000000 B
  all_goals
    simp only [Bool.and_true, Bool.and_false]
    go_enter Try.func49, Try.ntmps49
    go_wp2_with fail
    have on := OneM.new w (.cells #[.string s, .int .i64 f, .int .i64 sn, .int .i64 sd, .int .i64 mn, .int .i64 md, .int .i64 ln, .int .i64 ld, .int .i64 c, .slice a1 n1 c1, .slice a2 n2 c2] 26)
    generalize World.alloc w _ = w1 at on ⊢
    (refine region_class (OneM w w.heap.size (.cells #[.string s, .int .i64 f, .int .i64 sn, .int .i64 sd, .int .i64 mn, .int .i64 md, .int .i64 ln, .int .i64 ld, .int .i64 c, .slice a1 n1 c1, .slice a2 n2 c2] 26)) (by kernel_rfl) (by kernel_rfl) (on.drew) ?_; repeat ((first | (refine class_take ?_ (by rfl) ?_ ?_; rotate_left; focus (intro wq hq; ((obtain ⟨x0, x1, x2, x3, x4, x5, x6, x7, x8, x9, x10⟩ := hq.cells)); go_simp; first | done | with_reducible rfl | ((go_at_call 42; (first | (with_reducible refine (FA.out _ hq.below).mono ?_) | (with_reducible refine (FB.out _ hq.below).mono ?_)); rintro e w' ⟨rfl, hb⟩; refine ⟨?_, hq.step hb⟩; with_reducible rfl)))) | refine class_skip (by rfl) ?_); try simp only [Act.put, List.setIfInBounds_toArray, List.set_cons_zero, List.set_cons_succ]))
    refine wpQuiet_nil ?_
    intro W2 hW2
    clear on
    go_wp2_with fail
    refine (line_Is _ _).mono ?_; rw [ha]; rintro e w4 ⟨rfl, rfl⟩
    go_wp2_with fail
    (first | (refine (line_Is _ _).mono ?_; rw [hb2]; rintro e w5 ⟨rfl, rfl⟩; go_wp2_with fail) | skip)
    go_ret3
    exact ⟨rfl, hW2.below⟩
set_option maxHeartbeats 1000000 in
theorem ref_MoonEnd (w : World) (s : ByteArray) (f sn sd mn md ln ld c : Int) (a1 a2 : Option Addr) (n1 c1 n2 c2 : Nat) (ls vs : List Int) (N y m : Int) (ok : MoonOk s f sn sd mn md ln ld c ls vs N) (y1 : -17000 ≤ y) (y2 : y ≤ 17000) (m1 : 1 ≤ m) (m2 : m ≤ 19) (h : MoonAt w a1 a2 n1 n2 ls vs) :
    Calls Try.prog 50 #[.agg #[.string s, .int .i64 f, .int .i64 sn, .int .i64 sd, .int .i64 mn, .int .i64 md, .int .i64 ln, .int .i64 ld, .int .i64 c, .slice a1 n1 c1, .slice a2 n2 c2], .int .i64 y, .int .i64 m] w fun e w' => e = .returned (.int .i64 (beginD f sn sd mn md ln ld c N ls vs y (m + 1))) ∧ Below w.heap.size w w' := by
  have H := Lib.hid h; clear h
  have OK := Lib.hid ok; clear ok
  have hmm := mths_in c ls y
  have t0 : IntKind.i64.wrap (m + 1) = m + 1 := IntWalk.i64_in _ (by omega)
  have t1 : IntKind.i64.wrap (y + 1) = y + 1 := IntWalk.i64_in _ (by omega)
  obtain ⟨E, hE⟩ : ∃ E, E = beginD f sn sd mn md ln ld c N ls vs y (m + 1) := ⟨_, rfl⟩
  rw [← hE]
  unfold beginD at hE
  obtain ⟨MM, hMM⟩ : ∃ MM, MM = mths c ls y := ⟨_, rfl⟩
  rw [← hMM] at hmm hE
  have HMM := Lib.hid hMM; clear hMM
  by_cases hc : MM < m + 1
  · have g1 : decide (m < MM) = false := by simp; omega
    rw [if_pos hc] at hE
    have HE := Lib.hid hE.symm; clear hE hc
    go_enter Try.func50, Try.ntmps50
    go_wp2_with fail
    have on := OneM.new w (.cells #[.string s, .int .i64 f, .int .i64 sn, .int .i64 sd, .int .i64 mn, .int .i64 md, .int .i64 ln, .int .i64 ld, .int .i64 c, .slice a1 n1 c1, .slice a2 n2 c2] 26)
    generalize World.alloc w _ = w1 at on ⊢
    refine (ref_MoonMonths _ s f sn sd mn md ln ld c a1 a2 n1 c1 n2 c2 ls vs N y OK.out (by omega) (by omega) (H.out.then_ on.below)).mono ?_
    rw [← HMM.out]
    rintro e w7 ⟨rfl, hb⟩
    replace on := on.step hb
    clear hb
    obtain ⟨x0, x1, x2, x3, x4, x5, x6, x7, x8, x9, x10⟩ := on.cells
    go_wp2_with fail
    refine (ref_MoonBegin _ s f sn sd mn md ln ld c a1 a2 n1 c1 n2 c2 ls vs N (y + 1) 1 OK.out (by omega) (by omega) (by omega) (by omega) (H.out.then_ on.below)).mono ?_
    rw [HE.out]
    rintro e w9 ⟨rfl, hb⟩
    go_wp2_with fail
    go_ret
    exact ⟨rfl, below_then on.below hb⟩
  · have g1 : decide (m < MM) = true := by simp; omega
    rw [if_neg hc] at hE
    have HE := Lib.hid hE.symm; clear hE hc
    go_enter Try.func50, Try.ntmps50
    go_wp2_with fail
    have on := OneM.new w (.cells #[.string s, .int .i64 f, .int .i64 sn, .int .i64 sd, .int .i64 mn, .int .i64 md, .int .i64 ln, .int .i64 ld, .int .i64 c, .slice a1 n1 c1, .slice a2 n2 c2] 26)
    generalize World.alloc w _ = w1 at on ⊢
    refine (ref_MoonMonths _ s f sn sd mn md ln ld c a1 a2 n1 c1 n2 c2 ls vs N y OK.out (by omega) (by omega) (H.out.then_ on.below)).mono ?_
    rw [← HMM.out]
    rintro e w7 ⟨rfl, hb⟩
    replace on := on.step hb
    clear hb
    obtain ⟨x0, x1, x2, x3, x4, x5, x6, x7, x8, x9, x10⟩ := on.cells
    go_wp2_with fail
    refine (ref_MoonBegin _ s f sn sd mn md ln ld c a1 a2 n1 c1 n2 c2 ls vs N y (m + 1) OK.out (by omega) (by omega) (by omega) (by omega) (H.out.then_ on.below)).mono ?_
    rw [HE.out]
    rintro e w9 ⟨rfl, hb⟩
    go_wp2_with fail
    go_ret
    exact ⟨rfl, below_then on.below hb⟩
/-- What a date's day is: first days of the month and of the next one, day. -/
def toDayOut (a b d : Int) : Value := if (inB (-4000000) 4000000 a && inB (-4000000) 4000000 b) = true then (if inB 1 (b - a) d = true then .tuple #[.int .i64 (a + d - 1), .int .i64 0] else .tuple #[.int .i64 0, .int .i64 1]) else .tuple #[.int .i64 0, .int .i64 3]
theorem toDayOut_form (a b d : Int) : ∃ u v, toDayOut a b d = .tuple #[.int .i64 u, .int .i64 v] ∧ (((inB (-4000000) 4000000 a && inB (-4000000) 4000000 b) = false ∧ u = 0 ∧ v = 3) ∨ (inB (-4000000) 4000000 a = true ∧ inB (-4000000) 4000000 b = true ∧ inB 1 (b - a) d = false ∧ u = 0 ∧ v = 1) ∨ (inB (-4000000) 4000000 a = true ∧ inB (-4000000) 4000000 b = true ∧ inB 1 (b - a) d = true ∧ u = a + d - 1 ∧ v = 0)) := by
  unfold toDayOut
  cases h1 : inB (-4000000) 4000000 a <;> cases h2 : inB (-4000000) 4000000 b <;> cases h3 : inB 1 (b - a) d <;> simp
theorem lunisolar_ToDay_err (w : World) (s : ByteArray) (f sn sd mn md ln ld c : Int) (a1 a2 : Option Addr) (n1 c1 n2 c2 : Nat) (ls vs : List Int) (y m d : Int) (hs : s.size ≤ 9223372036854775807) (hi : MoonI sn sd mn md ln ld) (h : MoonAt w a1 a2 n1 n2 ls vs) (q : moonErrY (moonErr s f sn sd mn md ln ld c ls vs) y ≠ 0) :
    Calls Try.prog 19 #[.agg #[.string s, .int .i64 f, .int .i64 sn, .int .i64 sd, .int .i64 mn, .int .i64 md, .int .i64 ln, .int .i64 ld, .int .i64 c, .slice a1 n1 c1, .slice a2 n2 c2], .agg #[.int .i64 y, .int .i64 m, .int .i64 d]] w fun e w' => e = .returned (.tuple #[.int .i64 0, .int .i64 (moonErrY (moonErr s f sn sd mn md ln ld c ls vs) y)]) ∧ Below w.heap.size w w' := by
  have H := Lib.hid h; clear h
  obtain ⟨E, hE⟩ : ∃ E, E = moonErrY (moonErr s f sn sd mn md ln ld c ls vs) y := ⟨_, rfl⟩
  rw [← hE] at q ⊢
  have HE := Lib.hid hE; clear hE
  have q' : (E != 0) = true := by simpa using q
  clear q
  go_enter Try.func19, Try.ntmps19
  go_wp2_with fail
  refine (lunisolar_check _ s f sn sd mn md ln ld c a1 a2 n1 c1 n2 c2 ls vs y hs hi (H.out.then_ (below_new (below_new (Below.refl _ _) _) _))).mono ?_
  rw [← HE.out]
  rintro e w1 ⟨rfl, hb⟩
  go_wp2_with fail
  go_ret2
  exact ⟨rfl, by (repeat' (first | exact Below.refl _ _ | assumption | refine Below.drew ?_ | refine below_drewN ?_ _ | refine below_new ?_ _ | refine below_set ?_ ?_ _ | refine below_then ?_ (by assumption) | refine below_drawn ?_ (by assumption) | exact Nat.le_refl _ | omega | (simp; done) | (simp; omega)))⟩
set_option maxHeartbeats 2000000 in
theorem lunisolar_ToDay_ok (w : World) (s : ByteArray) (f sn sd mn md ln ld c : Int) (a1 a2 : Option Addr) (n1 c1 n2 c2 : Nat) (ls vs : List Int) (N y m d : Int) (hs : s.size ≤ 9223372036854775807) (hi : MoonI sn sd mn md ln ld) (h : MoonAt w a1 a2 n1 n2 ls vs) (q : moonErr s f sn sd mn md ln ld c ls vs = 0) (ok : MoonOk s f sn sd mn md ln ld c ls vs N) (hy : inB (-10000) 10000 y = true) :
    Calls Try.prog 19 #[.agg #[.string s, .int .i64 f, .int .i64 sn, .int .i64 sd, .int .i64 mn, .int .i64 md, .int .i64 ln, .int .i64 ld, .int .i64 c, .slice a1 n1 c1, .slice a2 n2 c2], .agg #[.int .i64 y, .int .i64 m, .int .i64 d]] w fun e w' => e = .returned (if inB 1 (mths c ls y) m = true then toDayOut (begD f sn sd mn md ln ld c N ls vs y m) (beginD f sn sd mn md ln ld c N ls vs y (m + 1)) d else .tuple #[.int .i64 0, .int .i64 1]) ∧ Below w.heap.size w w' := by
  have H := Lib.hid h; clear h
  have HE := Lib.hid (show moonErrY (moonErr s f sn sd mn md ln ld c ls vs) y = 0 by rw [q, moonErrY_ok hy])
  have OK := Lib.hid ok
  have hy2 := inB_iff.1 hy
  have hmm := mths_in c ls y
  have HBE := Lib.hid (fun (hm : m ≤ mths c ls y) => beginD_at (f := f) (sn := sn) (sd := sd) (mn := mn) (md := md) (ln := ln) (ld := ld) (N := N) (vs := vs) hm)
  obtain ⟨MM, hMM⟩ : ∃ MM, MM = mths c ls y := ⟨_, rfl⟩
  rw [← hMM] at hmm HBE ⊢
  have HMM := Lib.hid hMM
  have fm : ∀ W, Below w.heap.size w W → Calls Try.prog 41 #[.agg #[.string s, .int .i64 f, .int .i64 sn, .int .i64 sd, .int .i64 mn, .int .i64 md, .int .i64 ln, .int .i64 ld, .int .i64 c, .slice a1 n1 c1, .slice a2 n2 c2], .int .i64 y] W fun e w' => e = .returned (.int .i64 MM) ∧ Below W.heap.size W w' := fun W hW => by
    rw [hMM]; exact lunisolar_months W s f sn sd mn md ln ld c a1 a2 n1 c1 n2 c2 ls vs N y ok (by omega) (by omega) (H.out.then_ hW)
  have FM := Lib.hid fm
  clear q hy hMM fm
  rcases inB_cases 1 MM m with ⟨hm, m1, m2⟩ | ⟨hm, hm'⟩
  · rw [if_pos hm]
    have g1 : decide (m < 1) = false := by simp; omega
    have g2 : decide (MM < m) = false := by simp; omega
    have fa := fun (W : World) (hW : Below w.heap.size w W) => lunisolar_After W s f sn sd mn md ln ld c a1 a2 n1 c1 n2 c2 ls vs N y m ok (by omega) (by omega) m1 (by omega) (H.out.then_ hW)
    have i1 := begD_in ok y m (by omega) (by omega) (by omega) (by omega)
    have i2 := beginD_in ok y (m + 1) (by omega) (by omega) (by omega) (by omega)
    rw [HBE.out m2] at fa
    generalize begD f sn sd mn md ln ld c N ls vs y m = A at *
    generalize beginD f sn sd mn md ln ld c N ls vs y (m + 1) = B at *
    obtain ⟨u, v, huv, huv2⟩ := toDayOut_form A B d
    rw [huv]
    have FA := Lib.hid fa
    clear hm huv fa HBE ok
    have t0 : IntKind.i64.wrap (B - A) = B - A := IntWalk.i64_in _ (by omega)
    rcases huv2 with ⟨hab, hu, hv⟩ | ⟨ha, hb2, hd, hu, hv⟩ | ⟨ha, hb2, hd, hu, hv⟩
    · subst hu hv
      go_enter Try.func19, Try.ntmps19
      go_wp2_with fail
      refine (lunisolar_check _ s f sn sd mn md ln ld c a1 a2 n1 c1 n2 c2 ls vs y hs hi (H.out.then_ (below_new (below_new (Below.refl _ _) _) _))).mono ?_
      rw [HE.out]
      rintro e w1 ⟨rfl, hb⟩
      have tw0 := (Two.new w (.cells #[.string s, .int .i64 f, .int .i64 sn, .int .i64 sd, .int .i64 mn, .int .i64 md, .int .i64 ln, .int .i64 ld, .int .i64 c, .slice a1 n1 c1, .slice a2 n2 c2] 26) (.cells #[.int .i64 y, .int .i64 m, .int .i64 d] 39)).step hb
      clear hb
      go_wp2_with fail
      (refine region_class (Two w (.cells #[.string s, .int .i64 f, .int .i64 sn, .int .i64 sd, .int .i64 mn, .int .i64 md, .int .i64 ln, .int .i64 ld, .int .i64 c, .slice a1 n1 c1, .slice a2 n2 c2] 26) (.cells #[.int .i64 y, .int .i64 m, .int .i64 d] 39)) (by kernel_rfl) (by kernel_rfl) (tw0.drew) ?_; repeat ((first | (refine class_take ?_ (by rfl) ?_ ?_; rotate_left; focus (intro wq hq; ((obtain ⟨e0, e1, e2⟩ := hq.date; obtain ⟨x0, x1, x2, x3, x4, x5, x6, x7, x8, x9, x10⟩ := hq.moon)); go_simp; first | done | with_reducible rfl | ((go_at_call 41; refine (FM.out _ hq.2.2).mono ?_; rintro e w' ⟨rfl, hb⟩; refine ⟨?_, hq.step hb⟩; with_reducible rfl)))) | refine class_skip (by rfl) ?_); try simp only [Act.put, List.setIfInBounds_toArray, List.set_cons_zero, List.set_cons_succ]))
      refine wpQuiet_nil ?_
      intro W2 tw
      clear tw0
      obtain ⟨e0, e1, e2⟩ := tw.date
      obtain ⟨x0, x1, x2, x3, x4, x5, x6, x7, x8, x9, x10⟩ := tw.moon
      go_wp2_with fail
      refine (FA.out _ tw.2.2).mono ?_
      rw [hab]
      rintro e w4 ⟨rfl, hb⟩
      replace tw := tw.step hb
      clear hb e0 e1 e2 x0 x1 x2 x3 x4 x5 x6 x7 x8 x9 x10
      go_wp2_with fail
      go_ret2
      exact ⟨rfl, tw.2.2⟩
    · subst hu hv
      have hab : (inB (-4000000) 4000000 A && inB (-4000000) 4000000 B) = true := by rw [ha, hb2]; rfl
      have hd' : d < 1 ∨ (1 ≤ d ∧ B - A < d) := by
        rcases inB_cases 1 (B - A) d with ⟨h1, _⟩ | ⟨_, h2⟩
        · rw [hd] at h1; cases h1
        · omega
      clear hd ha hb2
      rcases hd' with hd | ⟨hd, hd2⟩
      · have g3 : decide (d < 1) = true := by simpa using hd
        go_enter Try.func19, Try.ntmps19
        go_wp2_with fail
        refine (lunisolar_check _ s f sn sd mn md ln ld c a1 a2 n1 c1 n2 c2 ls vs y hs hi (H.out.then_ (below_new (below_new (Below.refl _ _) _) _))).mono ?_
        rw [HE.out]
        rintro e w1 ⟨rfl, hb⟩
        have tw0 := (Two.new w (.cells #[.string s, .int .i64 f, .int .i64 sn, .int .i64 sd, .int .i64 mn, .int .i64 md, .int .i64 ln, .int .i64 ld, .int .i64 c, .slice a1 n1 c1, .slice a2 n2 c2] 26) (.cells #[.int .i64 y, .int .i64 m, .int .i64 d] 39)).step hb
        clear hb
        go_wp2_with fail
        (refine region_class (Two w (.cells #[.string s, .int .i64 f, .int .i64 sn, .int .i64 sd, .int .i64 mn, .int .i64 md, .int .i64 ln, .int .i64 ld, .int .i64 c, .slice a1 n1 c1, .slice a2 n2 c2] 26) (.cells #[.int .i64 y, .int .i64 m, .int .i64 d] 39)) (by kernel_rfl) (by kernel_rfl) (tw0.drew) ?_; repeat ((first | (refine class_take ?_ (by rfl) ?_ ?_; rotate_left; focus (intro wq hq; ((obtain ⟨e0, e1, e2⟩ := hq.date; obtain ⟨x0, x1, x2, x3, x4, x5, x6, x7, x8, x9, x10⟩ := hq.moon)); go_simp; first | done | with_reducible rfl | ((go_at_call 41; refine (FM.out _ hq.2.2).mono ?_; rintro e w' ⟨rfl, hb⟩; refine ⟨?_, hq.step hb⟩; with_reducible rfl)))) | refine class_skip (by rfl) ?_); try simp only [Act.put, List.setIfInBounds_toArray, List.set_cons_zero, List.set_cons_succ]))
        refine wpQuiet_nil ?_
        intro W2 tw
        clear tw0
        obtain ⟨e0, e1, e2⟩ := tw.date
        obtain ⟨x0, x1, x2, x3, x4, x5, x6, x7, x8, x9, x10⟩ := tw.moon
        go_wp2_with fail
        refine (FA.out _ tw.2.2).mono ?_
        rw [hab]
        rintro e w4 ⟨rfl, hb⟩
        replace tw := tw.step hb
        clear hb e0 e1 e2 x0 x1 x2 x3 x4 x5 x6 x7 x8 x9 x10
        obtain ⟨e0, e1, e2⟩ := tw.date
        go_wp2_with fail
        go_ret2
        exact ⟨rfl, tw.2.2⟩
      · have g3 : decide (d < 1) = false := by simp; omega
        have g4 : decide (B - A < d) = true := by simpa using hd2
        go_enter Try.func19, Try.ntmps19
        go_wp2_with fail
        refine (lunisolar_check _ s f sn sd mn md ln ld c a1 a2 n1 c1 n2 c2 ls vs y hs hi (H.out.then_ (below_new (below_new (Below.refl _ _) _) _))).mono ?_
        rw [HE.out]
        rintro e w1 ⟨rfl, hb⟩
        have tw0 := (Two.new w (.cells #[.string s, .int .i64 f, .int .i64 sn, .int .i64 sd, .int .i64 mn, .int .i64 md, .int .i64 ln, .int .i64 ld, .int .i64 c, .slice a1 n1 c1, .slice a2 n2 c2] 26) (.cells #[.int .i64 y, .int .i64 m, .int .i64 d] 39)).step hb
        clear hb
        go_wp2_with fail
        (refine region_class (Two w (.cells #[.string s, .int .i64 f, .int .i64 sn, .int .i64 sd, .int .i64 mn, .int .i64 md, .int .i64 ln, .int .i64 ld, .int .i64 c, .slice a1 n1 c1, .slice a2 n2 c2] 26) (.cells #[.int .i64 y, .int .i64 m, .int .i64 d] 39)) (by kernel_rfl) (by kernel_rfl) (tw0.drew) ?_; repeat ((first | (refine class_take ?_ (by rfl) ?_ ?_; rotate_left; focus (intro wq hq; ((obtain ⟨e0, e1, e2⟩ := hq.date; obtain ⟨x0, x1, x2, x3, x4, x5, x6, x7, x8, x9, x10⟩ := hq.moon)); go_simp; first | done | with_reducible rfl | ((go_at_call 41; refine (FM.out _ hq.2.2).mono ?_; rintro e w' ⟨rfl, hb⟩; refine ⟨?_, hq.step hb⟩; with_reducible rfl)))) | refine class_skip (by rfl) ?_); try simp only [Act.put, List.setIfInBounds_toArray, List.set_cons_zero, List.set_cons_succ]))
        refine wpQuiet_nil ?_
        intro W2 tw
        clear tw0
        obtain ⟨e0, e1, e2⟩ := tw.date
        obtain ⟨x0, x1, x2, x3, x4, x5, x6, x7, x8, x9, x10⟩ := tw.moon
        go_wp2_with fail
        refine (FA.out _ tw.2.2).mono ?_
        rw [hab]
        rintro e w4 ⟨rfl, hb⟩
        replace tw := tw.step hb
        clear hb e0 e1 e2 x0 x1 x2 x3 x4 x5 x6 x7 x8 x9 x10
        obtain ⟨e0, e1, e2⟩ := tw.date
        go_wp2_with fail
        go_ret2
        exact ⟨rfl, tw.2.2⟩
    · subst hv
      have hab : (inB (-4000000) 4000000 A && inB (-4000000) 4000000 B) = true := by rw [ha, hb2]; rfl
      have hd1 := inB_iff.1 hd
      have g3 : decide (d < 1) = false := by simp; omega
      have g4 : decide (B - A < d) = false := by simp; omega
      have t1 : IntKind.i64.wrap (A + d) = A + d := IntWalk.i64_in _ (by omega)
      have t2 : IntKind.i64.wrap (A + d - 1) = u := by rw [hu]; exact IntWalk.i64_in _ (by omega)
      clear hd ha hb2 hu
      go_enter Try.func19, Try.ntmps19
      go_wp2_with fail
      refine (lunisolar_check _ s f sn sd mn md ln ld c a1 a2 n1 c1 n2 c2 ls vs y hs hi (H.out.then_ (below_new (below_new (Below.refl _ _) _) _))).mono ?_
      rw [HE.out]
      rintro e w1 ⟨rfl, hb⟩
      have tw0 := (Two.new w (.cells #[.string s, .int .i64 f, .int .i64 sn, .int .i64 sd, .int .i64 mn, .int .i64 md, .int .i64 ln, .int .i64 ld, .int .i64 c, .slice a1 n1 c1, .slice a2 n2 c2] 26) (.cells #[.int .i64 y, .int .i64 m, .int .i64 d] 39)).step hb
      clear hb
      go_wp2_with fail
      (refine region_class (Two w (.cells #[.string s, .int .i64 f, .int .i64 sn, .int .i64 sd, .int .i64 mn, .int .i64 md, .int .i64 ln, .int .i64 ld, .int .i64 c, .slice a1 n1 c1, .slice a2 n2 c2] 26) (.cells #[.int .i64 y, .int .i64 m, .int .i64 d] 39)) (by kernel_rfl) (by kernel_rfl) (tw0.drew) ?_; repeat ((first | (refine class_take ?_ (by rfl) ?_ ?_; rotate_left; focus (intro wq hq; ((obtain ⟨e0, e1, e2⟩ := hq.date; obtain ⟨x0, x1, x2, x3, x4, x5, x6, x7, x8, x9, x10⟩ := hq.moon)); go_simp; first | done | with_reducible rfl | ((go_at_call 41; refine (FM.out _ hq.2.2).mono ?_; rintro e w' ⟨rfl, hb⟩; refine ⟨?_, hq.step hb⟩; with_reducible rfl)))) | refine class_skip (by rfl) ?_); try simp only [Act.put, List.setIfInBounds_toArray, List.set_cons_zero, List.set_cons_succ]))
      refine wpQuiet_nil ?_
      intro W2 tw
      clear tw0
      obtain ⟨e0, e1, e2⟩ := tw.date
      obtain ⟨x0, x1, x2, x3, x4, x5, x6, x7, x8, x9, x10⟩ := tw.moon
      go_wp2_with fail
      refine (FA.out _ tw.2.2).mono ?_
      rw [hab]
      rintro e w4 ⟨rfl, hb⟩
      replace tw := tw.step hb
      clear hb e0 e1 e2 x0 x1 x2 x3 x4 x5 x6 x7 x8 x9 x10
      obtain ⟨e0, e1, e2⟩ := tw.date
      go_wp2_with fail
      go_ret2
      exact ⟨rfl, tw.2.2⟩
  · rw [if_neg (by rw [hm]; simp)]
    clear hm
    by_cases hlt : m < 1
    · have g1 : decide (m < 1) = true := by simpa using hlt
      go_enter Try.func19, Try.ntmps19
      go_wp2_with fail
      refine (lunisolar_check _ s f sn sd mn md ln ld c a1 a2 n1 c1 n2 c2 ls vs y hs hi (H.out.then_ (below_new (below_new (Below.refl _ _) _) _))).mono ?_
      rw [HE.out]
      rintro e w1 ⟨rfl, hb⟩
      have tw0 := (Two.new w (.cells #[.string s, .int .i64 f, .int .i64 sn, .int .i64 sd, .int .i64 mn, .int .i64 md, .int .i64 ln, .int .i64 ld, .int .i64 c, .slice a1 n1 c1, .slice a2 n2 c2] 26) (.cells #[.int .i64 y, .int .i64 m, .int .i64 d] 39)).step hb
      clear hb
      go_wp2_with fail
      (refine region_class (Two w (.cells #[.string s, .int .i64 f, .int .i64 sn, .int .i64 sd, .int .i64 mn, .int .i64 md, .int .i64 ln, .int .i64 ld, .int .i64 c, .slice a1 n1 c1, .slice a2 n2 c2] 26) (.cells #[.int .i64 y, .int .i64 m, .int .i64 d] 39)) (by kernel_rfl) (by kernel_rfl) (tw0.drew) ?_; repeat ((first | (refine class_take ?_ (by rfl) ?_ ?_; rotate_left; focus (intro wq hq; ((obtain ⟨e0, e1, e2⟩ := hq.date; obtain ⟨x0, x1, x2, x3, x4, x5, x6, x7, x8, x9, x10⟩ := hq.moon)); go_simp; first | done | with_reducible rfl | ((go_at_call 41; refine (FM.out _ hq.2.2).mono ?_; rintro e w' ⟨rfl, hb⟩; refine ⟨?_, hq.step hb⟩; with_reducible rfl)))) | refine class_skip (by rfl) ?_); try simp only [Act.put, List.setIfInBounds_toArray, List.set_cons_zero, List.set_cons_succ]))
      refine wpQuiet_nil ?_
      intro W2 tw
      clear tw0
      go_wp2_with fail
      go_ret2
      exact ⟨rfl, tw.2.2⟩
    · have g1 : decide (m < 1) = false := by simpa using hlt
      have g2 : decide (MM < m) = true := by simp; omega
      go_enter Try.func19, Try.ntmps19
      go_wp2_with fail
      refine (lunisolar_check _ s f sn sd mn md ln ld c a1 a2 n1 c1 n2 c2 ls vs y hs hi (H.out.then_ (below_new (below_new (Below.refl _ _) _) _))).mono ?_
      rw [HE.out]
      rintro e w1 ⟨rfl, hb⟩
      have tw0 := (Two.new w (.cells #[.string s, .int .i64 f, .int .i64 sn, .int .i64 sd, .int .i64 mn, .int .i64 md, .int .i64 ln, .int .i64 ld, .int .i64 c, .slice a1 n1 c1, .slice a2 n2 c2] 26) (.cells #[.int .i64 y, .int .i64 m, .int .i64 d] 39)).step hb
      clear hb
      go_wp2_with fail
      (refine region_class (Two w (.cells #[.string s, .int .i64 f, .int .i64 sn, .int .i64 sd, .int .i64 mn, .int .i64 md, .int .i64 ln, .int .i64 ld, .int .i64 c, .slice a1 n1 c1, .slice a2 n2 c2] 26) (.cells #[.int .i64 y, .int .i64 m, .int .i64 d] 39)) (by kernel_rfl) (by kernel_rfl) (tw0.drew) ?_; repeat ((first | (refine class_take ?_ (by rfl) ?_ ?_; rotate_left; focus (intro wq hq; ((obtain ⟨e0, e1, e2⟩ := hq.date; obtain ⟨x0, x1, x2, x3, x4, x5, x6, x7, x8, x9, x10⟩ := hq.moon)); go_simp; first | done | with_reducible rfl | ((go_at_call 41; refine (FM.out _ hq.2.2).mono ?_; rintro e w' ⟨rfl, hb⟩; refine ⟨?_, hq.step hb⟩; with_reducible rfl)))) | refine class_skip (by rfl) ?_); try simp only [Act.put, List.setIfInBounds_toArray, List.set_cons_zero, List.set_cons_succ]))
      refine wpQuiet_nil ?_
      intro W2 tw
      clear tw0
      go_wp2_with fail
      go_ret2
      exact ⟨rfl, tw.2.2⟩
theorem ref_MoonToDay_range (w : World) (s : ByteArray) (f sn sd mn md ln ld c : Int) (a1 a2 : Option Addr) (n1 c1 n2 c2 : Nat) (ls vs : List Int) (y m d : Int) (hy : inB (-10000) 10000 y = false) :
    Calls Try.prog 20 #[.agg #[.string s, .int .i64 f, .int .i64 sn, .int .i64 sd, .int .i64 mn, .int .i64 md, .int .i64 ln, .int .i64 ld, .int .i64 c, .slice a1 n1 c1, .slice a2 n2 c2], .agg #[.int .i64 y, .int .i64 m, .int .i64 d]] w fun e w' => e = .returned (.tuple #[.int .i64 0, .int .i64 3]) ∧ Below w.heap.size w w' := by
  go_enter Try.func20, Try.ntmps20
  go_wp2_with fail
  refine (ref_In _ _ _ _).mono ?_; rw [hy]; rintro e w8 ⟨rfl, rfl⟩
  go_wp2_with fail
  go_ret2
  exact ⟨rfl, by (repeat' (first | exact Below.refl _ _ | assumption | refine Below.drew ?_ | refine below_drewN ?_ _ | refine below_new ?_ _ | refine below_set ?_ ?_ _ | refine below_then ?_ (by assumption) | refine below_drawn ?_ (by assumption) | exact Nat.le_refl _ | omega | (simp; done) | (simp; omega)))⟩
set_option maxHeartbeats 2000000 in
theorem ref_MoonToDay_ok (w : World) (s : ByteArray) (f sn sd mn md ln ld c : Int) (a1 a2 : Option Addr) (n1 c1 n2 c2 : Nat) (ls vs : List Int) (N y m d : Int) (ok : MoonOk s f sn sd mn md ln ld c ls vs N) (h : MoonAt w a1 a2 n1 n2 ls vs) (hy : inB (-10000) 10000 y = true) :
    Calls Try.prog 20 #[.agg #[.string s, .int .i64 f, .int .i64 sn, .int .i64 sd, .int .i64 mn, .int .i64 md, .int .i64 ln, .int .i64 ld, .int .i64 c, .slice a1 n1 c1, .slice a2 n2 c2], .agg #[.int .i64 y, .int .i64 m, .int .i64 d]] w fun e w' => e = .returned (if inB 1 (mths c ls y) m = true then toDayOut (begD f sn sd mn md ln ld c N ls vs y m) (beginD f sn sd mn md ln ld c N ls vs y (m + 1)) d else .tuple #[.int .i64 0, .int .i64 1]) ∧ Below w.heap.size w w' := by
  have H := Lib.hid h; clear h
  have hy2 := inB_iff.1 hy
  have hmm := mths_in c ls y
  obtain ⟨MM, hMM⟩ : ∃ MM, MM = mths c ls y := ⟨_, rfl⟩
  rw [← hMM] at hmm ⊢
  have fm : ∀ W, Below w.heap.size w W → Calls Try.prog 16 #[.agg #[.string s, .int .i64 f, .int .i64 sn, .int .i64 sd, .int .i64 mn, .int .i64 md, .int .i64 ln, .int .i64 ld, .int .i64 c, .slice a1 n1 c1, .slice a2 n2 c2], .int .i64 y] W fun e w' => e = .returned (.int .i64 MM) ∧ Below W.heap.size W w' := fun W hW => by
    rw [hMM]; exact ref_MoonMonths W s f sn sd mn md ln ld c a1 a2 n1 c1 n2 c2 ls vs N y ok (by omega) (by omega) (H.out.then_ hW)
  have FM := Lib.hid fm
  clear fm hMM
  rcases inB_cases 1 MM m with ⟨hm, m1, m2⟩ | ⟨hm, hm'⟩
  · rw [if_pos hm]
    have fa := fun (W : World) (hW : Below w.heap.size w W) => ref_MoonBegin W s f sn sd mn md ln ld c a1 a2 n1 c1 n2 c2 ls vs N y m ok (by omega) (by omega) m1 (by omega) (H.out.then_ hW)
    have fe := fun (W : World) (hW : Below w.heap.size w W) => ref_MoonEnd W s f sn sd mn md ln ld c a1 a2 n1 c1 n2 c2 ls vs N y m ok (by omega) (by omega) m1 (by omega) (H.out.then_ hW)
    have i1 := begD_in ok y m (by omega) (by omega) (by omega) (by omega)
    have i2 := beginD_in ok y (m + 1) (by omega) (by omega) (by omega) (by omega)
    generalize begD f sn sd mn md ln ld c N ls vs y m = A at *
    generalize beginD f sn sd mn md ln ld c N ls vs y (m + 1) = B at *
    obtain ⟨u, v, huv, huv2⟩ := toDayOut_form A B d
    rw [huv]
    have FA := Lib.hid fa; have FE := Lib.hid fe
    clear huv fa fe ok
    have t0 : IntKind.i64.wrap (B - A) = B - A := IntWalk.i64_in _ (by omega)
    rcases huv2 with ⟨hab, hu, hv⟩ | ⟨ha, hb2, hd, hu, hv⟩ | ⟨ha, hb2, hd, hu, hv⟩
    · subst hu hv
      go_enter Try.func20, Try.ntmps20
      go_wp2_with fail
      refine (ref_In _ _ _ _).mono ?_; rw [hy]; rintro e w2 ⟨rfl, rfl⟩
      have tw0 := Two.new w (.cells #[.string s, .int .i64 f, .int .i64 sn, .int .i64 sd, .int .i64 mn, .int .i64 md, .int .i64 ln, .int .i64 ld, .int .i64 c, .slice a1 n1 c1, .slice a2 n2 c2] 26) (.cells #[.int .i64 y, .int .i64 m, .int .i64 d] 39)
      generalize World.alloc (World.alloc w _) _ = w3 at tw0 ⊢
      go_wp2_with fail
      (refine region_class (Two w (.cells #[.string s, .int .i64 f, .int .i64 sn, .int .i64 sd, .int .i64 mn, .int .i64 md, .int .i64 ln, .int .i64 ld, .int .i64 c, .slice a1 n1 c1, .slice a2 n2 c2] 26) (.cells #[.int .i64 y, .int .i64 m, .int .i64 d] 39)) (by kernel_rfl) (by kernel_rfl) (tw0.drew) ?_; repeat ((first | (refine class_take ?_ (by rfl) ?_ ?_; rotate_left; focus (intro wq hq; ((obtain ⟨e0, e1, e2⟩ := hq.date; obtain ⟨x0, x1, x2, x3, x4, x5, x6, x7, x8, x9, x10⟩ := hq.moon)); go_simp; first | done | with_reducible rfl | (first | (go_at_call 16; refine (FM.out _ hq.2.2).mono ?_; rintro e w' ⟨rfl, hb⟩; refine ⟨?_, hq.step hb⟩; with_reducible rfl) | (go_at_call 15; refine (ref_In _ _ _ _).mono ?_; rw [hm]; rintro e w' ⟨rfl, rfl⟩; refine ⟨?_, hq⟩; with_reducible rfl)))) | refine class_skip (by rfl) ?_); try simp only [Act.put, List.setIfInBounds_toArray, List.set_cons_zero, List.set_cons_succ]))
      refine wpQuiet_nil ?_
      intro W2 tw
      clear tw0
      go_wp2_with fail
      (refine region_class (Two w (.cells #[.string s, .int .i64 f, .int .i64 sn, .int .i64 sd, .int .i64 mn, .int .i64 md, .int .i64 ln, .int .i64 ld, .int .i64 c, .slice a1 n1 c1, .slice a2 n2 c2] 26) (.cells #[.int .i64 y, .int .i64 m, .int .i64 d] 39)) (by kernel_rfl) (by kernel_rfl) (tw.drew) ?_; repeat ((first | (refine class_take ?_ (by rfl) ?_ ?_; rotate_left; focus (intro wq hq; ((obtain ⟨e0, e1, e2⟩ := hq.date; obtain ⟨x0, x1, x2, x3, x4, x5, x6, x7, x8, x9, x10⟩ := hq.moon)); go_simp; first | done | with_reducible rfl | (first | (go_at_call 17; refine (FA.out _ hq.2.2).mono ?_; rintro e w' ⟨rfl, hb⟩; refine ⟨?_, hq.step hb⟩; with_reducible rfl) | (go_at_call 50; refine (FE.out _ hq.2.2).mono ?_; rintro e w' ⟨rfl, hb⟩; refine ⟨?_, hq.step hb⟩; with_reducible rfl)))) | refine class_skip (by rfl) ?_); try simp only [Act.put, List.setIfInBounds_toArray, List.set_cons_zero, List.set_cons_succ]))
      refine wpQuiet_nil ?_
      intro W3 tw3
      clear tw
      have tw := tw3
      clear tw3
      go_wp2_with fail
      cases ha : inB (-4000000) 4000000 A
      · refine (ref_Day _ _).mono ?_; rw [ha]; rintro e w8 ⟨rfl, rfl⟩
        go_wp2_with fail
        go_ret2
        exact ⟨rfl, tw.2.2⟩
      · have hb2 : inB (-4000000) 4000000 B = false := by rw [ha] at hab; simpa using hab
        refine (ref_Day _ _).mono ?_; rw [ha]; rintro e w8 ⟨rfl, rfl⟩
        go_wp2_with fail
        refine (ref_Day _ _).mono ?_; rw [hb2]; rintro e w9 ⟨rfl, rfl⟩
        go_wp2_with fail
        go_ret2
        exact ⟨rfl, tw.2.2⟩
    · subst hu hv
      go_enter Try.func20, Try.ntmps20
      go_wp2_with fail
      refine (ref_In _ _ _ _).mono ?_; rw [hy]; rintro e w2 ⟨rfl, rfl⟩
      have tw0 := Two.new w (.cells #[.string s, .int .i64 f, .int .i64 sn, .int .i64 sd, .int .i64 mn, .int .i64 md, .int .i64 ln, .int .i64 ld, .int .i64 c, .slice a1 n1 c1, .slice a2 n2 c2] 26) (.cells #[.int .i64 y, .int .i64 m, .int .i64 d] 39)
      generalize World.alloc (World.alloc w _) _ = w3 at tw0 ⊢
      go_wp2_with fail
      (refine region_class (Two w (.cells #[.string s, .int .i64 f, .int .i64 sn, .int .i64 sd, .int .i64 mn, .int .i64 md, .int .i64 ln, .int .i64 ld, .int .i64 c, .slice a1 n1 c1, .slice a2 n2 c2] 26) (.cells #[.int .i64 y, .int .i64 m, .int .i64 d] 39)) (by kernel_rfl) (by kernel_rfl) (tw0.drew) ?_; repeat ((first | (refine class_take ?_ (by rfl) ?_ ?_; rotate_left; focus (intro wq hq; ((obtain ⟨e0, e1, e2⟩ := hq.date; obtain ⟨x0, x1, x2, x3, x4, x5, x6, x7, x8, x9, x10⟩ := hq.moon)); go_simp; first | done | with_reducible rfl | (first | (go_at_call 16; refine (FM.out _ hq.2.2).mono ?_; rintro e w' ⟨rfl, hb⟩; refine ⟨?_, hq.step hb⟩; with_reducible rfl) | (go_at_call 15; refine (ref_In _ _ _ _).mono ?_; rw [hm]; rintro e w' ⟨rfl, rfl⟩; refine ⟨?_, hq⟩; with_reducible rfl)))) | refine class_skip (by rfl) ?_); try simp only [Act.put, List.setIfInBounds_toArray, List.set_cons_zero, List.set_cons_succ]))
      refine wpQuiet_nil ?_
      intro W2 tw
      clear tw0
      go_wp2_with fail
      (refine region_class (Two w (.cells #[.string s, .int .i64 f, .int .i64 sn, .int .i64 sd, .int .i64 mn, .int .i64 md, .int .i64 ln, .int .i64 ld, .int .i64 c, .slice a1 n1 c1, .slice a2 n2 c2] 26) (.cells #[.int .i64 y, .int .i64 m, .int .i64 d] 39)) (by kernel_rfl) (by kernel_rfl) (tw.drew) ?_; repeat ((first | (refine class_take ?_ (by rfl) ?_ ?_; rotate_left; focus (intro wq hq; ((obtain ⟨e0, e1, e2⟩ := hq.date; obtain ⟨x0, x1, x2, x3, x4, x5, x6, x7, x8, x9, x10⟩ := hq.moon)); go_simp; first | done | with_reducible rfl | (first | (go_at_call 17; refine (FA.out _ hq.2.2).mono ?_; rintro e w' ⟨rfl, hb⟩; refine ⟨?_, hq.step hb⟩; with_reducible rfl) | (go_at_call 50; refine (FE.out _ hq.2.2).mono ?_; rintro e w' ⟨rfl, hb⟩; refine ⟨?_, hq.step hb⟩; with_reducible rfl)))) | refine class_skip (by rfl) ?_); try simp only [Act.put, List.setIfInBounds_toArray, List.set_cons_zero, List.set_cons_succ]))
      refine wpQuiet_nil ?_
      intro W3 tw3
      clear tw
      have tw := tw3
      clear tw3
      go_wp2_with fail
      refine (ref_Day _ _).mono ?_; rw [ha]; rintro e w8 ⟨rfl, rfl⟩
      go_wp2_with fail
      refine (ref_Day _ _).mono ?_; rw [hb2]; rintro e w9 ⟨rfl, rfl⟩
      obtain ⟨e0, e1, e2⟩ := tw.date
      go_wp2_with fail
      refine (ref_In _ _ _ _).mono ?_; rw [hd]; rintro e w10 ⟨rfl, rfl⟩
      go_wp2_with fail
      go_ret2
      exact ⟨rfl, tw.2.2⟩
    · subst hv
      have hd1 := inB_iff.1 hd
      have t1 : IntKind.i64.wrap (A + d) = A + d := IntWalk.i64_in _ (by omega)
      have t2 : IntKind.i64.wrap (A + d - 1) = u := by rw [hu]; exact IntWalk.i64_in _ (by omega)
      clear hu hd1
      go_enter Try.func20, Try.ntmps20
      go_wp2_with fail
      refine (ref_In _ _ _ _).mono ?_; rw [hy]; rintro e w2 ⟨rfl, rfl⟩
      have tw0 := Two.new w (.cells #[.string s, .int .i64 f, .int .i64 sn, .int .i64 sd, .int .i64 mn, .int .i64 md, .int .i64 ln, .int .i64 ld, .int .i64 c, .slice a1 n1 c1, .slice a2 n2 c2] 26) (.cells #[.int .i64 y, .int .i64 m, .int .i64 d] 39)
      generalize World.alloc (World.alloc w _) _ = w3 at tw0 ⊢
      go_wp2_with fail
      (refine region_class (Two w (.cells #[.string s, .int .i64 f, .int .i64 sn, .int .i64 sd, .int .i64 mn, .int .i64 md, .int .i64 ln, .int .i64 ld, .int .i64 c, .slice a1 n1 c1, .slice a2 n2 c2] 26) (.cells #[.int .i64 y, .int .i64 m, .int .i64 d] 39)) (by kernel_rfl) (by kernel_rfl) (tw0.drew) ?_; repeat ((first | (refine class_take ?_ (by rfl) ?_ ?_; rotate_left; focus (intro wq hq; ((obtain ⟨e0, e1, e2⟩ := hq.date; obtain ⟨x0, x1, x2, x3, x4, x5, x6, x7, x8, x9, x10⟩ := hq.moon)); go_simp; first | done | with_reducible rfl | (first | (go_at_call 16; refine (FM.out _ hq.2.2).mono ?_; rintro e w' ⟨rfl, hb⟩; refine ⟨?_, hq.step hb⟩; with_reducible rfl) | (go_at_call 15; refine (ref_In _ _ _ _).mono ?_; rw [hm]; rintro e w' ⟨rfl, rfl⟩; refine ⟨?_, hq⟩; with_reducible rfl)))) | refine class_skip (by rfl) ?_); try simp only [Act.put, List.setIfInBounds_toArray, List.set_cons_zero, List.set_cons_succ]))
      refine wpQuiet_nil ?_
      intro W2 tw
      clear tw0
      go_wp2_with fail
      (refine region_class (Two w (.cells #[.string s, .int .i64 f, .int .i64 sn, .int .i64 sd, .int .i64 mn, .int .i64 md, .int .i64 ln, .int .i64 ld, .int .i64 c, .slice a1 n1 c1, .slice a2 n2 c2] 26) (.cells #[.int .i64 y, .int .i64 m, .int .i64 d] 39)) (by kernel_rfl) (by kernel_rfl) (tw.drew) ?_; repeat ((first | (refine class_take ?_ (by rfl) ?_ ?_; rotate_left; focus (intro wq hq; ((obtain ⟨e0, e1, e2⟩ := hq.date; obtain ⟨x0, x1, x2, x3, x4, x5, x6, x7, x8, x9, x10⟩ := hq.moon)); go_simp; first | done | with_reducible rfl | (first | (go_at_call 17; refine (FA.out _ hq.2.2).mono ?_; rintro e w' ⟨rfl, hb⟩; refine ⟨?_, hq.step hb⟩; with_reducible rfl) | (go_at_call 50; refine (FE.out _ hq.2.2).mono ?_; rintro e w' ⟨rfl, hb⟩; refine ⟨?_, hq.step hb⟩; with_reducible rfl)))) | refine class_skip (by rfl) ?_); try simp only [Act.put, List.setIfInBounds_toArray, List.set_cons_zero, List.set_cons_succ]))
      refine wpQuiet_nil ?_
      intro W3 tw3
      clear tw
      have tw := tw3
      clear tw3
      go_wp2_with fail
      refine (ref_Day _ _).mono ?_; rw [ha]; rintro e w8 ⟨rfl, rfl⟩
      go_wp2_with fail
      refine (ref_Day _ _).mono ?_; rw [hb2]; rintro e w9 ⟨rfl, rfl⟩
      obtain ⟨e0, e1, e2⟩ := tw.date
      go_wp2_with fail
      refine (ref_In _ _ _ _).mono ?_; rw [hd]; rintro e w10 ⟨rfl, rfl⟩
      go_wp2_with fail
      go_ret2
      exact ⟨rfl, tw.2.2⟩
  · rw [if_neg (by rw [hm]; simp)]
    clear ok
    go_enter Try.func20, Try.ntmps20
    go_wp2_with fail
    refine (ref_In _ _ _ _).mono ?_; rw [hy]; rintro e w2 ⟨rfl, rfl⟩
    have tw0 := Two.new w (.cells #[.string s, .int .i64 f, .int .i64 sn, .int .i64 sd, .int .i64 mn, .int .i64 md, .int .i64 ln, .int .i64 ld, .int .i64 c, .slice a1 n1 c1, .slice a2 n2 c2] 26) (.cells #[.int .i64 y, .int .i64 m, .int .i64 d] 39)
    generalize World.alloc (World.alloc w _) _ = w3 at tw0 ⊢
    go_wp2_with fail
    (refine region_class (Two w (.cells #[.string s, .int .i64 f, .int .i64 sn, .int .i64 sd, .int .i64 mn, .int .i64 md, .int .i64 ln, .int .i64 ld, .int .i64 c, .slice a1 n1 c1, .slice a2 n2 c2] 26) (.cells #[.int .i64 y, .int .i64 m, .int .i64 d] 39)) (by kernel_rfl) (by kernel_rfl) (tw0.drew) ?_; repeat ((first | (refine class_take ?_ (by rfl) ?_ ?_; rotate_left; focus (intro wq hq; ((obtain ⟨e0, e1, e2⟩ := hq.date; obtain ⟨x0, x1, x2, x3, x4, x5, x6, x7, x8, x9, x10⟩ := hq.moon)); go_simp; first | done | with_reducible rfl | (first | (go_at_call 16; refine (FM.out _ hq.2.2).mono ?_; rintro e w' ⟨rfl, hb⟩; refine ⟨?_, hq.step hb⟩; with_reducible rfl) | (go_at_call 15; refine (ref_In _ _ _ _).mono ?_; rw [hm]; rintro e w' ⟨rfl, rfl⟩; refine ⟨?_, hq⟩; with_reducible rfl)))) | refine class_skip (by rfl) ?_); try simp only [Act.put, List.setIfInBounds_toArray, List.set_cons_zero, List.set_cons_succ]))
    refine wpQuiet_nil ?_
    intro W2 tw
    clear tw0
    go_wp2_with fail
    go_ret2
    exact ⟨rfl, tw.2.2⟩
end Go.Proofs.Ytjekdceicjnamaa
