/- Contract of arith.FromDay. -/
import Derived.Test.YtghecclgaaklaaaFrom2
import Derived.Test.YtghecclgaaklaaaFrom4
namespace Go.Proofs.Ytghecclgaaklaaa
set_option linter.unusedVariables false
set_option maxRecDepth 100000
open Go.RowKit

theorem arith_FromDay_err (w : World) (s : ByteArray) (f c : Int) (a1 a2 : Option Addr) (n1 c1 n2 c2 : Nat) (ms : List Mon) (ls : List Int) (x : Int) (hs : s.size ≤ 9223372036854775807) (k1 : n1 ≤ c1) (h : CalAt w a1 a2 n1 n2 ms ls) (q : calErr s f c ms ls ≠ 0) :
    Calls Try.prog 63 #[.agg #[.string s, .int .i64 f, .int .i64 c, .slice a1 n1 c1, .slice a2 n2 c2], .int .i64 x] w fun e w' => e = .returned (.tuple #[.agg #[.int .i64 0, .int .i64 0, .int .i64 0], .int .i64 (calErr s f c ms ls)]) ∧ Below w.heap.size w w' := by
  have H := Lib.hid h; clear h
  obtain ⟨E, hE⟩ : ∃ E, E = calErr s f c ms ls := ⟨_, rfl⟩
  rw [← hE] at q ⊢
  have HE := Lib.hid hE; clear hE
  have q' : (E != 0) = true := by simpa using q
  clear q
  go_enter Try.func63, Try.ntmps63
  go_wp2_with fail
  refine (compile_Check _ _ _ _ _ _ _ _ _ _ ms ls hs k1 ((H.out.alloc _).alloc _).1 ((H.out.alloc _).alloc _).2).mono ?_; rw [← HE.out]; rintro e w1 ⟨rfl, hb⟩
  have tw := (Two.new w (.cells #[.string s, .int .i64 f, .int .i64 c, .slice a1 n1 c1, .slice a2 n2 c2] 37) (.cells #[.int .i64 0, .int .i64 0, .int .i64 0] 23)).step hb
  have ar := tw.2.1
  have e0 := ar.cell 0; have e1 := ar.cell 1; have e2 := ar.cell 2; simp at e0 e1 e2
  have z0 := ar.frozen 0; have z1 := ar.frozen 1; have z2 := ar.frozen 2
  clear hb
  go_wp2_with fail
  have ar3 := ar.store3 (.int .i64 0) (.int .i64 0) (.int .i64 0)
  have b3 := below_set3 tw.2.2 (p := w.heap.size + 1) (by omega) (.int .i64 0) (.int .i64 0) (.int .i64 0)
  clear e0 e1 e2 z0 z1 z2
  generalize World.setCell (World.setCell _ _ _) _ _ = W3 at ar3 b3 ⊢
  have e0 := ar3.cell 0; have e1 := ar3.cell 1; have e2 := ar3.cell 2; simp at e0 e1 e2
  exact bodyPost_ret (v := .tuple #[.agg #[.int .i64 0, .int .i64 0, .int .i64 0], .int .i64 E]) (by simp [results, Try.results63, go_sem, e0, e1, e2]) rfl ⟨rfl, b3⟩
theorem arith_FromDay_ok (w : World) (s : ByteArray) (f c : Int) (a1 a2 : Option Addr) (n1 c1 n2 c2 : Nat) (ms : List Mon) (ls : List Int) (x a b d ee : Int) (hs : s.size ≤ 9223372036854775807) (k1 : n1 ≤ c1) (h : CalAt w a1 a2 n1 n2 ms ls) (q : calErr s f c ms ls = 0)
    (hfd : ∀ W, Below w.heap.size w W → Calls Try.prog 109 #[.agg #[.string s, .int .i64 f, .int .i64 c, .slice a1 n1 c1, .slice a2 n2 c2], .int .i64 x] W fun e w' => e = .returned (.tuple #[.agg #[.int .i64 a, .int .i64 b, .int .i64 d], .int .i64 ee]) ∧ Below W.heap.size W w') :
    Calls Try.prog 63 #[.agg #[.string s, .int .i64 f, .int .i64 c, .slice a1 n1 c1, .slice a2 n2 c2], .int .i64 x] w fun e w' => e = .returned (.tuple #[.agg #[.int .i64 a, .int .i64 b, .int .i64 d], .int .i64 ee]) ∧ Below w.heap.size w w' := by
  have H := Lib.hid h; have HFD := Lib.hid hfd; clear h hfd
  have HE := Lib.hid q; clear q
  go_enter Try.func63, Try.ntmps63
  go_wp2_with fail
  refine (compile_Check _ _ _ _ _ _ _ _ _ _ ms ls hs k1 ((H.out.alloc _).alloc _).1 ((H.out.alloc _).alloc _).2).mono ?_; rw [HE.out]; rintro e w1 ⟨rfl, hb⟩
  have tw := (Two.new w (.cells #[.string s, .int .i64 f, .int .i64 c, .slice a1 n1 c1, .slice a2 n2 c2] 37) (.cells #[.int .i64 0, .int .i64 0, .int .i64 0] 23)).step hb
  obtain ⟨x0, x1, x2, x3, x4⟩ := tw.cal
  clear hb
  go_wp2_with fail
  refine (HFD.out _ tw.2.2).mono ?_
  rintro e w2 ⟨rfl, hb⟩
  replace tw := tw.step hb
  clear hb x0 x1 x2 x3 x4
  have ar := tw.2.1
  have e0 := ar.cell 0; have e1 := ar.cell 1; have e2 := ar.cell 2; simp at e0 e1 e2
  have z0 := ar.frozen 0; have z1 := ar.frozen 1; have z2 := ar.frozen 2
  go_wp2_with fail
  have ar3 := ar.store3 (.int .i64 a) (.int .i64 b) (.int .i64 d)
  have b3 := below_set3 tw.2.2 (p := w.heap.size + 1) (by omega) (.int .i64 a) (.int .i64 b) (.int .i64 d)
  clear e0 e1 e2 z0 z1 z2
  generalize World.setCell (World.setCell _ _ _) _ _ = W3 at ar3 b3 ⊢
  have e0 := ar3.cell 0; have e1 := ar3.cell 1; have e2 := ar3.cell 2; simp at e0 e1 e2
  exact bodyPost_ret (v := .tuple #[.agg #[.int .i64 a, .int .i64 b, .int .i64 d], .int .i64 ee]) (by simp [results, Try.results63, go_sem, e0, e1, e2]) rfl ⟨rfl, b3⟩
theorem place_of_year {s : ByteArray} {f c : Int} {ms : List Mon} {ls : List Int} (ok : CalOk s f c ms ls) {x y : Int} (h : InYear ms ls f c y x) (y1 : -10000 ≤ y) (y2 : y ≤ 10000) : Place ms ls f c x (y + 10002).toNat := by
  refine ⟨by omega, fun i hi => ?_, fun _ => ?_⟩
  · have := nyOf_lt ok (show -10001 + (i : Int) ≤ y by omega)
    have := h.1; omega
  · rw [show -10001 + ((y + 10002).toNat : Int) = y + 1 by omega]; exact h.2
theorem year_of_place {f c : Int} {ms : List Mon} {ls : List Int} {x : Int} {r : Nat} (h : Place ms ls f c x r) (y1 : -10000 ≤ -10001 + (r : Int) - 1) (y2 : -10001 + (r : Int) - 1 ≤ 10000) : InYear ms ls f c (-10001 + (r : Int) - 1) x := by
  refine ⟨?_, ?_⟩
  · have := h.2.1 (r - 1) (by omega)
    rwa [show -10001 + ((r - 1 : Nat) : Int) = -10001 + (r : Int) - 1 by omega] at this
  · have := h.2.2 (by omega)
    rwa [show -10001 + (r : Int) - 1 + 1 = -10001 + (r : Int) by omega]
end Go.Proofs.Ytghecclgaaklaaa
