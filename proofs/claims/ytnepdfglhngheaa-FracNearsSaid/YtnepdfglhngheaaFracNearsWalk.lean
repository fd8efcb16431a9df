/- FracNears: the Go text returns true at every input, and writes nothing that was there. -/
import Derived.Test.YtnepdfglhngheaaNear3
import Derived.Test.YtnepdfglhngheaaNear4
import Derived.Test.YtnepdfglhngheaaFracOpen
import Derived.Test.YtnepdfglhngheaaOne
import Derived.Test.YtnepdfglhngheaaQuiet
import Derived.Deep.CutRange
namespace Go.Proofs.Ytnepdfglhngheaa.fracNearsLaw
set_option linter.unusedVariables false
set_option maxRecDepth 100000
open Go.RowKit Go.ChangeShapes Go.WideShapes

theorem best_unique {N M d p q : Int} {k : Nat} (hk : d = (k : Int)) (h : Best N M d p q) : nearTo N M k = (p, q) := by subst hk; exact nearTo_best h
theorem lit_best : nearTo 355 113 10 = (22, 7) := by decide +kernel
theorem red300 (d : Int) (h : 300 < d) : 1 ≤ d.tmod 300 + 1 ∧ d.tmod 300 + 1 ≤ 300 := by
  have e := Int.tmod_eq_emod_of_nonneg (a := d) (b := 300) (by omega)
  omega
/-- The two boxes of the law. -/
def Tw (N M p q : Int) (w : World) (yb : Nat) (W : World) : Prop := At W w.heap.size (.cells #[.int .i64 N, .int .i64 M] 33) ∧ At W yb (.cells #[.int .i64 p, .int .i64 q] 33) ∧ Below w.heap.size w W
theorem Tw.step {N M p q : Int} {w W W' : World} {yb : Nat} (h : Tw N M p q w yb W) (hb : Below W.heap.size W W') : Tw N M p q w yb W' := ⟨h.1.then_ hb, h.2.1.then_ hb, below_then h.2.2 hb⟩
theorem Tw.drew {N M p q : Int} {w W : World} {yb : Nat} (h : Tw N M p q w yb W) : Tw N M p q w yb W.drew := ⟨h.1.drew, h.2.1.drew, h.2.2.drew⟩
theorem Tw.cells {N M p q : Int} {w W : World} {yb : Nat} (h : Tw N M p q w yb W) : W.cell? ⟨w.heap.size, 0, none⟩ = some (.int .i64 N) ∧ W.cell? ⟨w.heap.size, 1, none⟩ = some (.int .i64 M) ∧ W.cell? ⟨yb, 0, none⟩ = some (.int .i64 p) ∧ W.cell? ⟨yb, 1, none⟩ = some (.int .i64 q) :=
  ⟨h.1.cell 0, h.1.cell 1, h.2.1.cell 0, h.2.1.cell 1⟩
set_option maxHeartbeats 4000000 in
theorem core (w : World) (N M d : Int) (n1 : -9223372036854775808 ≤ N) (n2 : N ≤ 9223372036854775807) (m1 : -9223372036854775808 ≤ M) (m2 : M ≤ 9223372036854775807) (d1 : -9223372036854775808 ≤ d) (d2 : d ≤ 9223372036854775807) :
    Calls Try.prog 5 #[.agg #[.int .i64 N, .int .i64 M], .int .i64 d] w fun e w' => e = .returned (.bool true) ∧ Below w.heap.size w w' := by
  have hcase : (300 < d ∧ d ≤ 2147483647) ∨ (1 ≤ d ∧ d ≤ 300) ∨ d < 1 ∨ 2147483647 < d := by omega
  obtain ⟨z, z1, z2, hzz⟩ : ∃ z : Int, -9223372036854775808 ≤ z ∧ z ≤ 9223372036854775807 ∧ (((1 ≤ z ∧ z ≤ 300) ∧ ((300 < d ∧ d ≤ 2147483647 ∧ d % 300 + 1 = z) ∨ (d ≤ 300 ∧ d = z))) ∨ ((z < 1 ∨ 2147483647 < z) ∧ ((d ≤ 300 ∧ d = z) ∨ (2147483647 < d ∧ d = z)))) := by
    rcases hcase with ⟨h1, h2⟩ | ⟨h1, h2⟩ | h | h
    · have := Int.emod_nonneg d (show (300 : Int) ≠ 0 by omega)
      have := Int.emod_lt_of_pos d (show (0 : Int) < 300 by omega)
      exact ⟨d % 300 + 1, by omega, by omega, .inl ⟨by omega, .inl ⟨h1, h2, rfl⟩⟩⟩
    · exact ⟨d, d1, d2, .inl ⟨⟨h1, h2⟩, .inr ⟨h2, rfl⟩⟩⟩
    · exact ⟨d, d1, d2, .inr ⟨.inl h, .inl ⟨by omega, rfl⟩⟩⟩
    · exact ⟨d, d1, d2, .inr ⟨.inr h, .inr ⟨h, rfl⟩⟩⟩
  clear hcase
  rcases hzz with ⟨⟨zz1, zz2⟩, hzz⟩ | ⟨hout, hzz⟩
  · rcases hzz with ⟨h3, hM, hzz⟩ | ⟨h3, hzz⟩
    case' inr => (subst d)
    all_goals
      (try have hz1 := Int.emod_nonneg d (show (300 : Int) ≠ 0 by omega))
      (try have hz2 := Int.emod_lt_of_pos d (show (0 : Int) < 300 by omega))
      go_enter Try.func5, Try.ntmps5
      go_wp2_with fail
      refine (frac_Near_ok 355 113 10 _ (by decide +kernel) (by omega) (by omega)).mono ?_
      rintro e w1 ⟨p, q, rfl, hbest, hb⟩
      have hpq := best_unique (k := 10) rfl hbest
      rw [lit_best] at hpq
      injection hpq with hp hq
      subst hp hq
      have o0 := (One.new w (.cells #[.int .i64 N, .int .i64 M] 33)).step hb
      clear hb hbest
      go_upto_region 4 with fail
      have o1 := o0.alloc (.cells #[.int .i64 22, .int .i64 7] 33)
      clear o0
      generalize World.alloc w1 _ = W0 at o1 ⊢
      have x0 : W0.cell? ⟨w.heap.size, 0, none⟩ = some (.int .i64 N) := o1.1.cell 0
      have x1 : W0.cell? ⟨w.heap.size, 1, none⟩ = some (.int .i64 M) := o1.1.cell 1
      go_wp2_with fail
      (try simp only [hzz])
      (try clear hz1 hz2)
      (try clear hzz)
      clear x0 x1
      rcases Bool.eq_false_or_eq_true (fracOk N M) with hok | hok
      case' inr =>
        refine (frac_Near_bad N M _ _ n1 n2 m1 m2 hok).mono ?_
        rintro e w2 ⟨rfl, hb⟩
        replace o1 := o1.step hb
        clear hb
        have x0 : w2.cell? ⟨w.heap.size, 0, none⟩ = some (.int .i64 N) := o1.1.cell 0
        have x1 : w2.cell? ⟨w.heap.size, 1, none⟩ = some (.int .i64 M) := o1.1.cell 1
        have hl := o1.1.lt
        go_wp2_with fail
        have t1 : Tw N M 0 0 w w2.heap.size (w2.alloc (.cells #[.int .i64 0, .int .i64 0] 33)) := ⟨o1.1.alloc _, At.new _ _, below_new o1.2 _⟩
        clear x0 x1 hl
        generalize World.alloc w2 _ = W2 at t1 ⊢
        refine (ref_FracOK N M _ n1 n2 m1 m2).mono ?_
        rw [hok]
        rintro e w3 ⟨rfl, hb⟩
        replace t1 := t1.step hb
        clear hb
        obtain ⟨y0, y1, y2, y3⟩ := t1.cells
        go_wp2_with fail
        go_ret
        exact ⟨rfl, t1.2.2⟩
      case inl =>
      obtain ⟨M1, M2, N1, N2, _⟩ := fracOk_true hok
      have hin := inB_yes (l := 1) (h := 2147483647) (x := z) (by omega) (by omega)
      obtain ⟨k, hk⟩ : ∃ k : Nat, z = (k : Int) := ⟨z.toNat, by omega⟩
      refine (frac_Near_ok N M _ _ hok zz1 zz2).mono ?_
      rintro e w2 ⟨p, q, rfl, hbest, hb⟩
      have hpq := best_unique hk hbest
      have HK := Lib.hid hk; have HPQ := Lib.hid hpq
      clear hk hpq hbest
      replace o1 := o1.step hb
      clear hb
      have x0 : w2.cell? ⟨w.heap.size, 0, none⟩ = some (.int .i64 N) := o1.1.cell 0
      have x1 : w2.cell? ⟨w.heap.size, 1, none⟩ = some (.int .i64 M) := o1.1.cell 1
      have hl := o1.1.lt
      go_wp2_with fail
      have t1 : Tw N M p q w w2.heap.size (w2.alloc (.cells #[.int .i64 p, .int .i64 q] 33)) := ⟨o1.1.alloc _, At.new _ _, below_new o1.2 _⟩
      clear x0 x1 hl
      generalize World.alloc w2 _ = W2 at t1 ⊢
      refine (ref_FracOK N M _ n1 n2 m1 m2).mono ?_
      rw [hok]
      rintro e w3 ⟨rfl, hb⟩
      replace t1 := t1.step hb
      clear hb
      obtain ⟨y0, y1, y2, y3⟩ := t1.cells
      go_wp2_with fail
      refine (ref_In _ _ _ _).mono ?_; rw [hin]; rintro e w4 ⟨rfl, rfl⟩
      clear y0 y1 y2 y3 hin
      go_wp2_with fail
      generalize w2.heap.size = yb at *
      have HCALL := Lib.hid (show ∀ W, Calls Try.prog 22 #[.agg #[.int .i64 N, .int .i64 M], .int .i64 z] W fun e w' => e = .returned (.agg #[.int .i64 p, .int .i64 q]) ∧ Below W.heap.size W w' by
        intro W
        have h := ref_FracNear N M k W N1 N2 M1 M2 (by have := HK.out; omega) (by have := HK.out; omega)
        rw [HPQ.out, ← HK.out] at h
        exact h)
      (refine region_class (Tw N M p q w yb) (by kernel_rfl) (by kernel_rfl) (t1.drew) ?_; repeat ((first | (refine class_take ?_ (by rfl) ?_ ?_; rotate_left; focus (intro wq hq; ((obtain ⟨x0, x1, x2, x3⟩ := hq.cells)); go_simp; first | done | with_reducible rfl | ((go_at_call 22; refine (HCALL.out _).mono ?_; rintro e w' ⟨rfl, hb⟩; refine ⟨?_, hq.step hb⟩; with_reducible rfl)))) | refine class_skip (by rfl) ?_); try simp only [Act.put, List.setIfInBounds_toArray, List.set_cons_zero, List.set_cons_succ]))
      refine wpQuiet_nil ?_
      intro W6 t6
      go_wp2_with fail
      go_ret
      exact ⟨by simp, t6.2.2⟩
  · rcases hzz with ⟨h3, hzz⟩ | ⟨h3, hzz⟩
    all_goals
      subst d
      have HOUT := Lib.hid hout; clear hout
      go_enter Try.func5, Try.ntmps5
      go_wp2_with fail
      refine (frac_Near_ok 355 113 10 _ (by decide +kernel) (by omega) (by omega)).mono ?_
      rintro e w1 ⟨p, q, rfl, hbest, hb⟩
      have hpq := best_unique (k := 10) rfl hbest
      rw [lit_best] at hpq
      injection hpq with hp hq
      subst hp hq
      have o0 := (One.new w (.cells #[.int .i64 N, .int .i64 M] 33)).step hb
      clear hb hbest
      go_upto_region 4 with fail
      have o1 := o0.alloc (.cells #[.int .i64 22, .int .i64 7] 33)
      clear o0
      generalize World.alloc w1 _ = W0 at o1 ⊢
      have x0 : W0.cell? ⟨w.heap.size, 0, none⟩ = some (.int .i64 N) := o1.1.cell 0
      have x1 : W0.cell? ⟨w.heap.size, 1, none⟩ = some (.int .i64 M) := o1.1.cell 1
      go_wp2_with fail
      (try simp only [hzz])
      (try clear hz1 hz2)
      (try clear hzz)
      clear x0 x1
      rcases Bool.eq_false_or_eq_true (fracOk N M) with hok | hok
      case' inr =>
        refine (frac_Near_bad N M _ _ n1 n2 m1 m2 hok).mono ?_
        rintro e w2 ⟨rfl, hb⟩
        replace o1 := o1.step hb
        clear hb
        have x0 : w2.cell? ⟨w.heap.size, 0, none⟩ = some (.int .i64 N) := o1.1.cell 0
        have x1 : w2.cell? ⟨w.heap.size, 1, none⟩ = some (.int .i64 M) := o1.1.cell 1
        have hl := o1.1.lt
        go_wp2_with fail
        have t1 : Tw N M 0 0 w w2.heap.size (w2.alloc (.cells #[.int .i64 0, .int .i64 0] 33)) := ⟨o1.1.alloc _, At.new _ _, below_new o1.2 _⟩
        clear x0 x1 hl
        generalize World.alloc w2 _ = W2 at t1 ⊢
        refine (ref_FracOK N M _ n1 n2 m1 m2).mono ?_
        rw [hok]
        rintro e w3 ⟨rfl, hb⟩
        replace t1 := t1.step hb
        clear hb
        obtain ⟨y0, y1, y2, y3⟩ := t1.cells
        go_wp2_with fail
        go_ret
        exact ⟨rfl, t1.2.2⟩
      case inl =>
      obtain ⟨M1, M2, N1, N2, _⟩ := fracOk_true hok
      have hout := HOUT.out
      have hin := inB_no (l := 1) (h := 2147483647) (x := z) (by omega)
      refine (frac_Near_arg N M _ _ hok hout).mono ?_
      rintro e w2 ⟨rfl, hb⟩
      replace o1 := o1.step hb
      clear hb
      have x0 : w2.cell? ⟨w.heap.size, 0, none⟩ = some (.int .i64 N) := o1.1.cell 0
      have x1 : w2.cell? ⟨w.heap.size, 1, none⟩ = some (.int .i64 M) := o1.1.cell 1
      have hl := o1.1.lt
      go_wp2_with fail
      have t1 : Tw N M 0 0 w w2.heap.size (w2.alloc (.cells #[.int .i64 0, .int .i64 0] 33)) := ⟨o1.1.alloc _, At.new _ _, below_new o1.2 _⟩
      clear x0 x1 hl
      generalize World.alloc w2 _ = W2 at t1 ⊢
      refine (ref_FracOK N M _ n1 n2 m1 m2).mono ?_
      rw [hok]
      rintro e w3 ⟨rfl, hb⟩
      replace t1 := t1.step hb
      clear hb
      obtain ⟨y0, y1, y2, y3⟩ := t1.cells
      go_wp2_with fail
      refine (ref_In _ _ _ _).mono ?_; rw [hin]; rintro e w4 ⟨rfl, rfl⟩
      go_wp2_with fail
      go_ret
      exact ⟨rfl, t1.2.2⟩
theorem walk {H : Type} {enc : TypeId × Value → H} {v0 v1 : Value} {d0 d1 : DataW H} {p0 p1 : List MemPlace} {base : Nat} (W : World)
    (o0 : Value.okWide Try.prog W .any base 33 v0) (h0 : DataW.Trod enc Try.prog W 0 (fun _ => true) true 33 v0 d0 p0)
    (o1 : Value.okWide Try.prog W .any base 3 v1) (h1 : DataW.Trod enc Try.prog W 0 (fun _ => true) true 3 v1 d1 p1) :
    Calls Try.prog 5 #[v0, v1] W fun e w' => e = .returned (.bool true) ∧ Below W.heap.size W w' := by
  obtain ⟨x, y, rfl, hx, hy⟩ := open_Frac o0 h0
  obtain ⟨d, rfl, rfl, rfl, wd⟩ := open_int Try.underlying3 o1 h1
  have hd := bounds_i64 wd
  exact core W x y d hx.1 hx.2 hy.1 hy.2 hd.1 hd.2
end Go.Proofs.Ytnepdfglhngheaa.fracNearsLaw
