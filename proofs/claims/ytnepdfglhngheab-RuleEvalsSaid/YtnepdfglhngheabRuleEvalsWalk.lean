/- RuleEvals: the Go text returns true at every input, and writes nothing that was there. -/
import Derived.Test.YtnepdfglhngheabTree8
import Derived.Test.YtnepdfglhngheabTree5
import Derived.Test.YtnepdfglhngheabTreeOpen
namespace Go.Proofs.Ytnepdfglhngheab.ruleEvalsLaw
set_option linter.unusedVariables false
set_option maxRecDepth 100000
open Go.RowKit Go.ChangeShapes Go.WideShapes

theorem small_leap (W : World) (b : Nat) : (Instr.field 27 (.agg #[.string ⟨#[115, 109, 97, 108, 108]⟩, .int .i64 1, .int .i64 8, .int .i64 10, .int .i64 0, .slice (some ⟨b + 5, 0, none⟩) 2 2, .slice (some ⟨b + 7, 0, none⟩) 2 2]) 3).run Try.prog W = .ok (.agg #[.int .i64 10, .int .i64 0, .slice (some ⟨b + 5, 0, none⟩) 2 2]) W := by
  kernel_rfl
theorem small_eval : evalOut (.node 10 0 smallKids) 1904 = (1, 0) := by decide +kernel
set_option maxHeartbeats 4000000 in
theorem core (w : World) (k m y : Int) (ks : List Tree) (a : Option Addr) (n c : Nat) (h : SubAt w w.heap.size (.node k m ks) a n) (hc : n ≤ c) (hm : c ≤ 9223372036854775807) :
    Calls Try.prog 4 #[.agg #[.int .i64 k, .int .i64 m, .slice a n c], .int .i64 y] w fun e w' => e = .returned (.bool true) ∧ Below w.heap.size w w' := by
  have H := Lib.hid h; clear h
  have hfd := fun W => small_leap W (w.heap.size + 1)
  go_enter Try.func4, Try.ntmps4
  go_wp2_with fail
  refine (law_small _).mono ?_
  rintro e w1 ⟨rfl, at1, at2, at3, hb⟩
  have o0 := (One.new w (.cells #[.int .i64 k, .int .i64 m, .slice a n c] 24)).step hb
  simp only [World.size_alloc] at at1 at2 at3
  have T1 := Lib.hid (small_tree at1.lt at2.lt at1 at2)
  clear at1 at2 at3 hb
  go_wp2_with fail
  clear hfd
  refine (rule_Eval _ 10 0 smallKids _ 2 2 1904 T1.out (by omega) (by omega)).mono ?_
  unfold EvalPost
  rw [small_eval]
  rintro e w2 ⟨rfl, hb⟩
  replace o0 := o0.step hb
  clear hb T1
  have x0 : w2.cell? ⟨w.heap.size, 0, none⟩ = some (.int .i64 k) := o0.1.cell 0
  have x1 : w2.cell? ⟨w.heap.size, 1, none⟩ = some (.int .i64 m) := o0.1.cell 1
  have x2 : w2.cell? ⟨w.heap.size, 2, none⟩ = some (.slice a n c) := o0.1.cell 2
  go_wp2_with fail
  have hEv := rule_Eval w2 k m ks a n c y (H.out.then_ o0.2) hc hm
  unfold EvalPost at hEv
  by_cases q : exprErr (.node k m ks) = 0
  case neg =>
    have ho : evalOut (.node k m ks) y = (0, exprErr (.node k m ks)) := if_pos q
    rw [ho] at hEv
    have q' : (exprErr (.node k m ks) != 0) = true := by simpa using q
    obtain ⟨E, hE⟩ : ∃ E, E = exprErr (.node k m ks) := ⟨_, rfl⟩
    rw [← hE] at hEv q'
    have HE := Lib.hid hE; clear hE ho q
    refine hEv.mono ?_
    rintro e w3 ⟨rfl, hb⟩
    replace o0 := o0.step hb
    clear hb x0 x1 x2 hEv
    obtain ⟨x0, x1, x2⟩ := o0.cells3
    go_wp2_with fail
    refine (ref_ExprError _ k m ks a n c (H.out.then_ o0.2) hc hm).mono ?_
    rw [← HE.out]
    rintro e w4 ⟨rfl, hb⟩
    replace o0 := o0.step hb
    go_wp2_with fail
    go_ret
    exact ⟨by simp, o0.2⟩
  have OK := Lib.hid (exprErr_ok q)
  have Q := Lib.hid q
  rcases inB_cases (-10000) 10000 y with ⟨hi, i1, i2⟩ | ⟨hi, hi'⟩
  case inr =>
    have ho : evalOut (.node k m ks) y = (0, 3) := (if_neg (by omega)).trans (if_pos hi)
    rw [ho] at hEv
    clear ho q
    refine hEv.mono ?_
    rintro e w3 ⟨rfl, hb⟩
    replace o0 := o0.step hb
    clear hb x0 x1 x2 hEv
    obtain ⟨x0, x1, x2⟩ := o0.cells3
    go_wp2_with fail
    refine (ref_ExprError _ k m ks a n c (H.out.then_ o0.2) hc hm).mono ?_
    rw [Q.out]
    rintro e w4 ⟨rfl, hb⟩
    replace o0 := o0.step hb
    go_wp2_with fail
    refine (ref_In _ _ _ _).mono ?_; rw [hi]; rintro e w5 ⟨rfl, rfl⟩
    go_wp2_with fail
    go_ret
    exact ⟨rfl, o0.2⟩
  have ho : evalOut (.node k m ks) y = evalGo (.node k m ks) y := (if_neg (by omega)).trans (if_neg (by rw [hi]; simp))
  rw [ho] at hEv
  obtain ⟨r, hr⟩ : ∃ r, r = evalGo (.node k m ks) y := ⟨_, rfl⟩
  rw [← hr] at hEv
  have HR := Lib.hid hr; clear hr ho q
  obtain ⟨v, ev⟩ := r
  simp only at hEv
  refine hEv.mono ?_
  rintro e w3 ⟨rfl, hb⟩
  replace o0 := o0.step hb
  clear hb x0 x1 x2 hEv
  obtain ⟨x0, x1, x2⟩ := o0.cells3
  go_wp2_with fail
  refine (ref_ExprError _ k m ks a n c (H.out.then_ o0.2) hc hm).mono ?_
  rw [Q.out]
  rintro e w4 ⟨rfl, hb⟩
  replace o0 := o0.step hb
  clear hb x0 x1 x2
  obtain ⟨x0, x1, x2⟩ := o0.cells3
  go_wp2_with fail
  refine (ref_In _ _ _ _).mono ?_; rw [hi]; rintro e w5 ⟨rfl, rfl⟩
  go_wp2_with fail
  have hRe := ref_Eval y i1 i2 (.node k m ks) w4 a n c (H.out.then_ o0.2) OK.out hc hm
  simp only [Tree.kind, Tree.num] at hRe
  unfold EvalPost at hRe
  rw [← HR.out] at hRe
  refine hRe.mono ?_
  rintro e w6 ⟨rfl, hb⟩
  replace o0 := o0.step hb
  clear hb x0 x1 x2 hRe
  go_wp2_with fail
  go_ret
  exact ⟨by simp, o0.2⟩
theorem walk {H : Type} {enc : TypeId × Value → H} {v0 v1 : Value} {d0 d1 : DataW H} {p0 p1 : List MemPlace} {base : Nat} (W : World)
    (o0 : Value.okWide Try.prog W .any base 24 v0) (h0 : DataW.Trod enc Try.prog W 0 (fun _ => true) true 24 v0 d0 p0)
    (o1 : Value.okWide Try.prog W .any base 3 v1) (h1 : DataW.Trod enc Try.prog W 0 (fun _ => true) true 3 v1 d1 p1) :
    Calls Try.prog 4 #[v0, v1] W fun e w' => e = .returned (.bool true) ∧ Below W.heap.size W w' := by
  obtain ⟨k, m, ks, a, n, c, rfl, q1, q2, t1⟩ := open_Expr o0 h0
  obtain ⟨y, rfl, rfl, rfl, wd⟩ := open_int Try.underlying3 o1 h1
  exact core W k m y ks a n c t1 q1 q2
end Go.Proofs.Ytnepdfglhngheab.ruleEvalsLaw
