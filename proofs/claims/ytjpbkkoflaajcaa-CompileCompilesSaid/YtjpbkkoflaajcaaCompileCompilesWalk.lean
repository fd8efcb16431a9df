/- CompileCompiles: the Go text returns true at every input, and writes nothing that was there. -/
import Derived.Test.YtjpbkkoflaajcaaComp3
import Derived.Test.YtjpbkkoflaajcaaComp4
import Derived.Test.YtjpbkkoflaajcaaTree5
import Derived.Test.YtjpbkkoflaajcaaTreeOpen
namespace Go.Proofs.Ytjpbkkoflaajcaa.compileCompilesLaw
set_option linter.unusedVariables false
set_option maxRecDepth 100000
open Go.RowKit Go.ChangeShapes Go.WideShapes

theorem small_err : compErr ⟨#[115, 109, 97, 108, 108]⟩ 1 8 (.node 10 0 smallKids) smallMonths = 0 := by decide +kernel
theorem small_leaps : (compTo (.node 10 0 smallKids) 8).2 = [4, 8] := by decide +kernel
/-- The calendar that a compilation gives. -/
def calOf (s : ByteArray) (f c : Int) (t : Tree) (ms : List Mon) : ByteArray × Int × Int × List Mon × List Int := if compErr s f c t ms ≠ 0 then (⟨#[]⟩, 0, 0, [], []) else (s, f, c, ms, (compTo t c.toNat).2)
def CalPost (r : ByteArray × Int × Int × List Mon × List Int) (E : Int) (w : World) (e : Ending) (w' : World) : Prop :=
  ∃ a1 n1 c1 a2 n2 c2, e = .returned (.tuple #[.agg #[.string r.1, .int .i64 r.2.1, .int .i64 r.2.2.1, .slice a1 n1 c1, .slice a2 n2 c2], .int .i64 E]) ∧ Months w' w'.heap.size a1 n1 r.2.2.2.1 ∧ Ints w' w'.heap.size a2 n2 r.2.2.2.2 ∧ Below w.heap.size w w'
theorem calPost {s : ByteArray} {f c : Int} {t : Tree} {ms : List Mon} {w : World} {e : Ending} {w' : World} (h : CompPost s f c t ms w e w') : CalPost (calOf s f c t ms) (compErr s f c t ms) w e w' := by
  rcases h with ⟨h0, he, hb⟩ | ⟨h0, a1, n1, c1, a2, n2, c2, he, _, _, hm, hi, hb⟩
  · rw [calOf, if_pos h0]
    exact ⟨none, 0, 0, none, 0, 0, he, ⟨⟨rfl, by omega, fun h => absurd h (by omega)⟩, by simp⟩, ⟨rfl, by omega, by simp, fun h => absurd h (by omega)⟩, hb⟩
  · rw [calOf, if_neg (by omega)]
    exact ⟨a1, n1, c1, a2, n2, c2, by rw [h0]; exact he, hm, hi, hb⟩
set_option maxHeartbeats 4000000 in
theorem core (w : World) (s : ByteArray) (f c k m : Int) (ks : List Tree) (a1 a2 : Option Addr) (n1 c1 n2 c2 : Nat) (ms : List Mon) (hs : s.size ≤ 9223372036854775807) (k1 : n1 ≤ c1) (m1 : c1 ≤ 9223372036854775807) (k2 : n2 ≤ c2)
    (h1 : SubAt w w.heap.size (.node k m ks) a1 n1) (h2 : Months w w.heap.size a2 n2 ms) :
    Calls Try.prog 3 #[.agg #[.string s, .int .i64 f, .int .i64 c, .int .i64 k, .int .i64 m, .slice a1 n1 c1, .slice a2 n2 c2]] w fun e w' => e = .returned (.bool true) ∧ Below w.heap.size w w' := by
  have H1 := Lib.hid h1; have H2 := Lib.hid h2; clear h1 h2
  go_enter Try.func3, Try.ntmps3
  go_wp2_with fail
  refine (law_small _).mono ?_
  rintro e w1 ⟨rfl, at1, at2, at3, hb⟩
  have o0 := (One.new w (.cells #[.string s, .int .i64 f, .int .i64 c, .int .i64 k, .int .i64 m, .slice a1 n1 c1, .slice a2 n2 c2] 27)).step hb
  simp only [World.size_alloc] at at1 at2 at3
  have t1 := small_tree at1.lt at2.lt at1 at2
  have g1 := small_months at3
  have T1 := Lib.hid t1; have G1 := Lib.hid g1
  clear t1 g1 at1 at2 at3 hb
  go_wp2_with fail
  refine (compile_Compile _ _ _ _ _ _ smallKids _ _ _ _ _ _ smallMonths (by decide) (by omega) (by omega) (by omega) T1.out G1.out).mono ?_
  rintro e w2 hcp
  rcases hcp with ⟨h0, _⟩ | ⟨_, p1, q1, r1, p2, q2, r2, rfl, _, _, _, hI, hb⟩
  · exact absurd small_err h0
  rw [show (compTo (.node 10 0 smallKids) (8 : Int).toNat).2 = [4, 8] from small_leaps] at hI
  replace o0 := o0.step hb
  have HI := Lib.hid hI
  clear hb hI T1 G1
  go_wp2_with fail
  have o1 := (o0.alloc (.cells #[.string ⟨#[115, 109, 97, 108, 108]⟩, .int .i64 1, .int .i64 8, .slice p1 q1 r1, .slice p2 q2 r2] 30)).alloc (.cells #[.int .i64 4, .int .i64 8] 3)
  have ai := At.new1 w2 (.cells #[.string ⟨#[115, 109, 97, 108, 108]⟩, .int .i64 1, .int .i64 8, .slice p1 q1 r1, .slice p2 q2 r2] 30) (.cells #[.int .i64 4, .int .i64 8] 3)
  have bi := below_new (below_new (Below.refl w2.heap.size w2) (.cells #[.string ⟨#[115, 109, 97, 108, 108]⟩, .int .i64 1, .int .i64 8, .slice p1 q1 r1, .slice p2 q2 r2] 30)) (.cells #[.int .i64 4, .int .i64 8] 3)
  generalize World.alloc (World.alloc w2 _) _ = W3 at o1 ai bi ⊢
  refine (ref_SameInts _ p2 (some ⟨w2.heap.size + 1, 0, none⟩) q2 r2 2 2 [4, 8] [4, 8] (ints_then4 HI.out bi) (At.ints [4, 8] ai (by unfold I64; simp) (by simp))).mono ?_
  rw [show (([4, 8] : List Int) == [4, 8]) = true by decide]
  rintro e w4 ⟨rfl, ⟨nd, rfl⟩⟩
  replace o1 := o1.drewN nd
  clear ai bi HI o0
  generalize W3.drewN nd = W4 at o1 ⊢
  have ob := o1.1
  have d0 := ob.cell 0; have d1 := ob.cell 1; have d2 := ob.cell 2; have d3 := ob.cell 3; have d4 := ob.cell 4; have d5 := ob.cell 5; have d6 := ob.cell 6; simp at d0 d1 d2 d3 d4 d5 d6
  go_wp2_with fail
  obtain ⟨E, hE⟩ : ∃ E, E = compErr s f c (.node k m ks) ms := ⟨_, rfl⟩
  obtain ⟨⟨S, F, K, M, L⟩, hK⟩ : ∃ r, r = calOf s f c (.node k m ks) ms := ⟨_, rfl⟩
  have HP := Lib.hid (show ∀ w e w', CompPost s f c (.node k m ks) ms w e w' → CalPost (S, F, K, M, L) E w e w' from fun w e w' h => by rw [hE, hK]; exact calPost h)
  clear hE hK
  refine (compile_Compile _ s f c k m ks a1 a2 n1 c1 n2 c2 ms hs k1 m1 k2 (H1.out.then_ o1.2) (H2.out.far (Below.refl _ _) o1.2)).mono ?_
  intro e w5 hcp
  obtain ⟨p3, q3, r3, p4, q4, r4, rfl, hM, hL, hb⟩ := HP.out _ _ _ hcp
  replace o1 := o1.step hb
  have HM := Lib.hid hM; have HL := Lib.hid hL
  clear hcp hb hM hL ob d0 d1 d2 d3 d4 d5 d6
  simp only at HM HL
  have ob := o1.1
  have d0 := ob.cell 0; have d1 := ob.cell 1; have d2 := ob.cell 2; have d3 := ob.cell 3; have d4 := ob.cell 4; have d5 := ob.cell 5; have d6 := ob.cell 6; simp at d0 d1 d2 d3 d4 d5 d6
  have hl5 := ob.lt
  go_wp2_with fail
  have o2 := o1.alloc (.cells #[.string S, .int .i64 F, .int .i64 K, .slice p3 q3 r3, .slice p4 q4 r4] 30)
  have ac := At.new w5 (.cells #[.string S, .int .i64 F, .int .i64 K, .slice p3 q3 r3, .slice p4 q4 r4] 30)
  have bc := below_new (Below.refl w5.heap.size w5) (.cells #[.string S, .int .i64 F, .int .i64 K, .slice p3 q3 r3, .slice p4 q4 r4] 30)
  clear d0 d1 d2 d3 d4 d5 d6 ob o1
  generalize World.alloc w5 _ = W6 at o2 ac bc ⊢
  refine (ref_Compile _ s f c k m ks a1 a2 n1 c1 n2 c2 ms hs k1 m1 k2 (H1.out.then_ o2.2) (H2.out.far (Below.refl _ _) o2.2)).mono ?_
  intro e w7 hcp
  obtain ⟨p5, q5, r5, p6, q6, r6, rfl, hM, hL, hb⟩ := HP.out _ _ _ hcp
  replace o2 := o2.step hb
  replace ac := ac.then_ hb
  replace bc := below_then bc hb
  simp only at hM hL
  obtain rfl : q5 = q3 := by rw [← hM.len, ← HM.out.len]
  obtain rfl : q6 = q4 := by rw [← hL.len, ← HL.out.len]
  have HM2 := Lib.hid hM; have HL2 := Lib.hid hL
  clear hcp hb hM hL
  have hl7 := ac.lt
  have d0 := ac.cell 0; have d1 := ac.cell 1; have d2 := ac.cell 2; have d3 := ac.cell 3; have d4 := ac.cell 4; simp at d0 d1 d2 d3 d4
  go_wp2_with fail
  have o3 := o2.alloc (.cells #[.string S, .int .i64 F, .int .i64 K, .slice p5 q5 r5, .slice p6 q6 r6] 30)
  have b7 := below_new (Below.refl w7.heap.size w7) (.cells #[.string S, .int .i64 F, .int .i64 K, .slice p5 q5 r5, .slice p6 q6 r6] 30)
  have b5 := below_then bc b7
  clear d0 d1 d2 d3 d4 o2 ac bc
  generalize World.alloc w7 _ = W8 at o3 b7 b5 ⊢
  refine (ref_SameCalendar _ S F K p3 p4 p5 p6 q5 r3 q6 r4 r5 r6 M L (HM.out.far (Below.refl _ _) b5) (ints_then4 HL.out b5) (HM2.out.far (Below.refl _ _) b7) (ints_then4 HL2.out b7)).mono ?_
  rintro e w9 ⟨rfl, hb⟩
  replace o3 := o3.step hb
  go_wp2_with fail
  go_ret
  exact ⟨by simp, o3.2⟩
theorem walk {H : Type} {enc : TypeId × Value → H} {v0 : Value} {d0 : DataW H} {p0 : List MemPlace} {base : Nat} (W : World)
    (o0 : Value.okWide Try.prog W .any base 27 v0) (h0 : DataW.Trod enc Try.prog W 0 (fun _ => true) true 27 v0 d0 p0) :
    Calls Try.prog 3 #[v0] W fun e w' => e = .returned (.bool true) ∧ Below W.heap.size W w' := by
  obtain ⟨s, f, c, k, m, ks, a1, a2, n1, c1, n2, c2, ms, rfl, hs, hf, hc, k1, m1, k2, m2, t1, g1⟩ := open_RuleTree o0 h0
  exact core W s f c k m ks a1 a2 n1 c1 n2 c2 ms hs k1 m1 k2 t1 g1
end Go.Proofs.Ytjpbkkoflaajcaa.compileCompilesLaw
