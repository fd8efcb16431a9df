/- RuleChecks: the Go text returns true at every input, and writes nothing that was there. -/
import Derived.Test.YtnepdfglhngheabTree5
import Derived.Test.YtnepdfglhngheabTreeOpen
namespace Go.Proofs.Ytnepdfglhngheab.ruleChecksLaw
set_option linter.unusedVariables false
set_option maxRecDepth 100000
open Go.RowKit Go.ChangeShapes Go.WideShapes

set_option maxHeartbeats 4000000 in
theorem core (w : World) (s : ByteArray) (f c k m : Int) (ks : List Tree) (a1 a2 : Option Addr) (n1 c1 n2 c2 : Nat) (ms : List Mon) (hs : s.size ≤ 9223372036854775807) (k1 : n1 ≤ c1) (m1 : c1 ≤ 9223372036854775807) (k2 : n2 ≤ c2)
    (h1 : SubAt w w.heap.size (.node k m ks) a1 n1) (h2 : Months w w.heap.size a2 n2 ms) :
    Calls Try.prog 3 #[.agg #[.string s, .int .i64 f, .int .i64 c, .int .i64 k, .int .i64 m, .slice a1 n1 c1, .slice a2 n2 c2]] w fun e w' => e = .returned (.bool true) ∧ Below w.heap.size w w' := by
  have H1 := Lib.hid h1; have H2 := Lib.hid h2; clear h1 h2
  go_enter Try.func3, Try.ntmps3
  go_wp2_with fail
  refine (law_small _).mono ?_
  rintro e w1 ⟨rfl, at1, at2, at3, hb⟩
  have o0 := (One.new w (.cells #[.string s, .int .i64 f, .int .i64 c, .int .i64 k, .int .i64 m, .slice a1 n1 c1, .slice a2 n2 c2] 27)).step hb
  simp only [World.size_alloc] at at1 at2 at3
  have t1 := small_tree at1.lt at2.lt at1 at2
  have g1 := small_months at3
  have T1 := Lib.hid t1; have G1 := Lib.hid g1
  clear t1 g1 at1 at2 at3 hb
  go_wp2_with fail
  have o1 := o0.alloc (.cells #[.string ⟨#[115, 109, 97, 108, 108]⟩, .int .i64 1, .int .i64 0, .int .i64 10, .int .i64 0, .slice (some ⟨w.heap.size + 1 + 5, 0, none⟩) 2 2, .slice (some ⟨w.heap.size + 1 + 7, 0, none⟩) 2 2] 27)
  have ad := At.new w1 (.cells #[.string ⟨#[115, 109, 97, 108, 108]⟩, .int .i64 1, .int .i64 0, .int .i64 10, .int .i64 0, .slice (some ⟨w.heap.size + 1 + 5, 0, none⟩) 2 2, .slice (some ⟨w.heap.size + 1 + 7, 0, none⟩) 2 2] 27)
  have T2 := Lib.hid (T1.out.then_ (below_new (Below.refl _ w1) (.cells #[.string ⟨#[115, 109, 97, 108, 108]⟩, .int .i64 1, .int .i64 0, .int .i64 10, .int .i64 0, .slice (some ⟨w.heap.size + 1 + 5, 0, none⟩) 2 2, .slice (some ⟨w.heap.size + 1 + 7, 0, none⟩) 2 2] 27)))
  have G2 := Lib.hid (G1.out.far (Below.refl _ _) (below_new (Below.refl _ w1) (.cells #[.string ⟨#[115, 109, 97, 108, 108]⟩, .int .i64 1, .int .i64 0, .int .i64 10, .int .i64 0, .slice (some ⟨w.heap.size + 1 + 5, 0, none⟩) 2 2, .slice (some ⟨w.heap.size + 1 + 7, 0, none⟩) 2 2] 27)))
  clear o0 T1 G1
  generalize World.alloc w1 _ = W2 at o1 ad T2 G2 ⊢
  refine (law_small _).mono ?_
  rintro e w3 ⟨rfl, at1, at2, at3, hb⟩
  replace o1 := o1.step hb
  replace ad := ad.then_ hb
  have T3 := Lib.hid (T2.out.then_ hb)
  have G3 := Lib.hid (G2.out.far (Below.refl _ _) hb)
  have t1 := small_tree at1.lt at2.lt at1 at2
  have g1 := small_months at3
  have T := Lib.hid t1; have G := Lib.hid g1
  clear t1 g1 at1 at2 at3 hb T2 G2
  go_wp2_with fail
  refine (rule_Check _ _ _ _ _ _ smallKids _ _ _ _ _ _ smallMonths (by decide) (by omega) (by omega) (by omega) T.out G.out).mono ?_
  rw [small_ok]
  rintro e w4 ⟨rfl, hb⟩
  replace o1 := o1.step hb
  replace ad := ad.then_ hb
  have T4 := Lib.hid (T3.out.then_ hb)
  have G4 := Lib.hid (G3.out.far (Below.refl _ _) hb)
  clear hb T G T3 G3
  have d0 := ad.cell 0; have d1 := ad.cell 1; have d2 := ad.cell 2; have d3 := ad.cell 3; have d4 := ad.cell 4; have d5 := ad.cell 5; have d6 := ad.cell 6; simp at d0 d1 d2 d3 d4 d5 d6
  go_wp2_with fail
  refine (rule_Check _ _ _ _ _ _ smallKids _ _ _ _ _ _ smallMonths (by decide) (by omega) (by omega) (by omega) T4.out G4.out).mono ?_
  rw [small_bad]
  rintro e w5 ⟨rfl, hb⟩
  replace o1 := o1.step hb
  clear hb T4 G4 d0 d1 d2 d3 d4 d5 d6 ad
  go_wp2_with fail
  obtain ⟨E, hE⟩ : ∃ E, E = ruleErr s f c (.node k m ks) ms := ⟨_, rfl⟩
  have HE := Lib.hid hE; clear hE
  (refine region_class (One w (.cells #[.string s, .int .i64 f, .int .i64 c, .int .i64 k, .int .i64 m, .slice a1 n1 c1, .slice a2 n2 c2] 27)) (by kernel_rfl) (by kernel_rfl) (o1.drew) ?_; repeat ((first | (refine class_take ?_ (by rfl) ?_ ?_; rotate_left; focus (intro wq hq; ((obtain ⟨x0, x1, x2, x3, x4, x5, x6⟩ : wq.cell? ⟨w.heap.size, 0, none⟩ = some (.string s) ∧ wq.cell? ⟨w.heap.size, 1, none⟩ = some (.int .i64 f) ∧ wq.cell? ⟨w.heap.size, 2, none⟩ = some (.int .i64 c) ∧ wq.cell? ⟨w.heap.size, 3, none⟩ = some (.int .i64 k) ∧ wq.cell? ⟨w.heap.size, 4, none⟩ = some (.int .i64 m) ∧ wq.cell? ⟨w.heap.size, 5, none⟩ = some (.slice a1 n1 c1) ∧ wq.cell? ⟨w.heap.size, 6, none⟩ = some (.slice a2 n2 c2) := ⟨hq.1.cell 0, hq.1.cell 1, hq.1.cell 2, hq.1.cell 3, hq.1.cell 4, hq.1.cell 5, hq.1.cell 6⟩)); go_simp; first | done | with_reducible rfl | (first | (go_at_call 7; refine (rule_Check _ s f c k m ks a1 a2 n1 c1 n2 c2 ms hs k1 m1 k2 (H1.out.then_ hq.2) (H2.out.far (Below.refl _ _) hq.2)).mono ?_; rw [← HE.out]; rintro e w' ⟨rfl, hb⟩; refine ⟨?_, hq.step hb⟩; with_reducible rfl) | (go_at_call 8; refine (ref_RuleError _ s f c k m ks a1 a2 n1 c1 n2 c2 ms hs k1 m1 k2 (H1.out.then_ hq.2) (H2.out.far (Below.refl _ _) hq.2)).mono ?_; rw [← HE.out]; rintro e w' ⟨rfl, hb⟩; refine ⟨?_, hq.step hb⟩; with_reducible rfl)))) | refine class_skip (by rfl) ?_); try simp only [Act.put, List.setIfInBounds_toArray, List.set_cons_zero, List.set_cons_succ]))
  refine wpQuiet_nil ?_
  intro W6 o6
  go_wp2_with fail
  go_ret
  exact ⟨by simp, o6.2⟩
theorem walk {H : Type} {enc : TypeId × Value → H} {v0 : Value} {d0 : DataW H} {p0 : List MemPlace} {base : Nat} (W : World)
    (o0 : Value.okWide Try.prog W .any base 27 v0) (h0 : DataW.Trod enc Try.prog W 0 (fun _ => true) true 27 v0 d0 p0) :
    Calls Try.prog 3 #[v0] W fun e w' => e = .returned (.bool true) ∧ Below W.heap.size W w' := by
  obtain ⟨s, f, c, k, m, ks, a1, a2, n1, c1, n2, c2, ms, rfl, hs, hf, hc, k1, m1, k2, m2, t1, g1⟩ := open_RuleTree o0 h0
  exact core W s f c k m ks a1 a2 n1 c1 n2 c2 ms hs k1 m1 k2 t1 g1
end Go.Proofs.Ytnepdfglhngheab.ruleChecksLaw
