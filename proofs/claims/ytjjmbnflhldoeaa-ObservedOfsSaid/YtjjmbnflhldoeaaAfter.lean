/- Contract of lunisolar.After. -/
import Derived.Test.YtjjmbnflhldoeaaLuni3
import Derived.Test.YtjjmbnflhldoeaaLuni5
namespace Go.Proofs.Ytjjmbnflhldoeaa
set_option linter.unusedVariables false
set_option maxRecDepth 100000
open Go.RowKit

set_option maxHeartbeats 1000000 in
theorem lunisolar_After (w : World) (s : ByteArray) (f sn sd mn md ln ld c : Int) (a1 a2 : Option Addr) (n1 c1 n2 c2 : Nat) (ls vs : List Int) (N y m : Int) (ok : MoonOk s f sn sd mn md ln ld c ls vs N) (y1 : -18000 ≤ y) (y2 : y ≤ 18000) (m1 : 1 ≤ m) (m2 : m ≤ 19) (h : MoonAt w a1 a2 n1 n2 ls vs) :
    Calls Try.prog 37 #[.agg #[.string s, .int .i64 f, .int .i64 sn, .int .i64 sd, .int .i64 mn, .int .i64 md, .int .i64 ln, .int .i64 ld, .int .i64 c, .slice a1 n1 c1, .slice a2 n2 c2], .int .i64 y, .int .i64 m] w fun e w' => e = .returned (.tuple #[.int .i64 (beginD f sn sd mn md ln ld c N ls vs y m), .int .i64 (beginD f sn sd mn md ln ld c N ls vs y (m + 1)), .bool (inB (-4000000) 4000000 (beginD f sn sd mn md ln ld c N ls vs y m) && inB (-4000000) 4000000 (beginD f sn sd mn md ln ld c N ls vs y (m + 1)))]) ∧ Below w.heap.size w w' := by
  have fa : ∀ W, Below w.heap.size w W → Calls Try.prog 68 #[.agg #[.string s, .int .i64 f, .int .i64 sn, .int .i64 sd, .int .i64 mn, .int .i64 md, .int .i64 ln, .int .i64 ld, .int .i64 c, .slice a1 n1 c1, .slice a2 n2 c2], .int .i64 y, .int .i64 m] W fun e w' => e = .returned (.int .i64 (beginD f sn sd mn md ln ld c N ls vs y m)) ∧ Below W.heap.size W w' := fun W hW => lunisolar_begin W s f sn sd mn md ln ld c a1 a2 n1 c1 n2 c2 ls vs N y m ok y1 y2 m1 (by omega) (h.then_ hW)
  have fb : ∀ W, Below w.heap.size w W → Calls Try.prog 68 #[.agg #[.string s, .int .i64 f, .int .i64 sn, .int .i64 sd, .int .i64 mn, .int .i64 md, .int .i64 ln, .int .i64 ld, .int .i64 c, .slice a1 n1 c1, .slice a2 n2 c2], .int .i64 y, .int .i64 (m + 1)] W fun e w' => e = .returned (.int .i64 (beginD f sn sd mn md ln ld c N ls vs y (m + 1))) ∧ Below W.heap.size W w' := fun W hW => lunisolar_begin W s f sn sd mn md ln ld c a1 a2 n1 c1 n2 c2 ls vs N y (m + 1) ok y1 y2 (by omega) (by omega) (h.then_ hW)
  generalize beginD f sn sd mn md ln ld c N ls vs y m = A at *
  generalize beginD f sn sd mn md ln ld c N ls vs y (m + 1) = B at *
  have FA := Lib.hid fa; have FB := Lib.hid fb
  have t0 : IntKind.i64.wrap (m + 1) = m + 1 := IntWalk.i64_in _ (by omega)
  clear fa fb h ok
  cases ha : inB (-4000000) 4000000 A <;> cases hb2 : inB (-4000000) 4000000 B
  all_goals
    simp only [Bool.and_true, Bool.and_false]
    go_enter Try.func37, Try.ntmps37
    go_wp2_with fail
    have on := OneM.new w (.cells #[.string s, .int .i64 f, .int .i64 sn, .int .i64 sd, .int .i64 mn, .int .i64 md, .int .i64 ln, .int .i64 ld, .int .i64 c, .slice a1 n1 c1, .slice a2 n2 c2] 42)
    generalize World.alloc w _ = w1 at on ⊢
    (refine region_class (OneM w w.heap.size (.cells #[.string s, .int .i64 f, .int .i64 sn, .int .i64 sd, .int .i64 mn, .int .i64 md, .int .i64 ln, .int .i64 ld, .int .i64 c, .slice a1 n1 c1, .slice a2 n2 c2] 42)) (by kernel_rfl) (by kernel_rfl) (on.drew) ?_; repeat ((first | (refine class_take ?_ (by rfl) ?_ ?_; rotate_left; focus (intro wq hq; ((obtain ⟨x0, x1, x2, x3, x4, x5, x6, x7, x8, x9, x10⟩ := hq.cells)); go_simp; first | done | with_reducible rfl | ((go_at_call 68; (first | (with_reducible refine (FA.out _ hq.below).mono ?_) | (with_reducible refine (FB.out _ hq.below).mono ?_)); rintro e w' ⟨rfl, hb⟩; refine ⟨?_, hq.step hb⟩; with_reducible rfl)))) | refine class_skip (by rfl) ?_); try simp only [Act.put, List.setIfInBounds_toArray, List.set_cons_zero, List.set_cons_succ]))
    refine wpQuiet_nil ?_
    intro W2 hW2
    clear on
    go_wp2_with fail
    refine (line_Is _ _).mono ?_; rw [ha]; rintro e w4 ⟨rfl, rfl⟩
    go_wp2_with fail
    (first | (refine (line_Is _ _).mono ?_; rw [hb2]; rintro e w5 ⟨rfl, rfl⟩; go_wp2_with fail) | skip)
    go_ret3
    exact ⟨rfl, hW2.below⟩
end Go.Proofs.Ytjjmbnflhldoeaa
