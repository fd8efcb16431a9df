/- ObservedDates: the Go text returns true at every input, and writes nothing that was there. -/
import Derived.Test.YtkeicdimkmmnfaaTab4
import Derived.Test.YtkeicdimkmmnfaaYear12
import Derived.ProofKit
import Derived.OpenShut
namespace Go.Proofs.Ytkeicdimkmmnfaa.observedDatesLaw
set_option linter.unusedVariables false
set_option maxRecDepth 100000
open Go.RowKit Go.ChangeShapes Go.WideShapes Go.Joins

theorem lit0 : tableErr ⟨#[116, 97, 98, 108, 101]⟩ 5 [12] (startsTo 13) = 0 := by decide +kernel
theorem lit1 : fromGo 131 (rowsAt (startsTo 13) 0 (yrs 5 [12])) = ⟨5, 2, 2, 0⟩ := by kernel_rfl
theorem inI : ∀ x ∈ startsTo 13, I64 x := by
  intro x hx
  simp only [startsTo, List.mem_map, List.mem_range] at hx
  obtain ⟨k, hk, rfl⟩ := hx
  unfold I64; omega
theorem then2 {w w' : World} {a : Option Addr} {n : Nat} {xs : List Int} (h : Ints w w.heap.size a n xs) (hb : Below w.heap.size w w') : Ints w' w'.heap.size a n xs := (h.below hb (Nat.le_refl _)).more hb.size
set_option maxHeartbeats 1000000 in
theorem core (w : World) (s : ByteArray) (f : Int) (a1 a2 : Option Addr) (n1 c1 n2 c2 : Nat) (ms ss : List Int) (Y M D x : Int) (hs : s.size ≤ 9223372036854775807) (f1 : -9223372036854775808 ≤ f) (f2 : f ≤ 9223372036854775807) (k1 : n1 ≤ c1)
    (y1 : -9223372036854775808 ≤ Y) (y2 : Y ≤ 9223372036854775807) (m1 : -9223372036854775808 ≤ M) (m2 : M ≤ 9223372036854775807) (dI1 : -9223372036854775808 ≤ D) (dI2 : D ≤ 9223372036854775807) (h1 : Ints w w.heap.size a1 n1 ms) (h2 : Ints w w.heap.size a2 n2 ss) :
    Calls Try.prog 5 #[.agg #[.string s, .int .i64 f, .slice a1 n1 c1, .slice a2 n2 c2], .agg #[.int .i64 Y, .int .i64 M, .int .i64 D], .int .i64 x] w fun e w' => e = .returned (.bool true) ∧ Below w.heap.size w w' := by
  have H1 := Lib.hid h1; have H2 := Lib.hid h2; clear h1 h2
  go_enter Try.func5, Try.ntmps5
  go_wp2_with fail
  refine (law_year12 _).mono ?_
  rintro e w1 ⟨g, cap, cur, rfl, atm, ats, htk, hg, hc1, hc2, hb⟩
  have a0 := ((At.new w (.cells #[.string s, .int .i64 f, .slice a1 n1 c1, .slice a2 n2 c2] 36)).alloc (.cells #[.int .i64 Y, .int .i64 M, .int .i64 D] 38)).then_ hb
  have ad := (At.new1 w (.cells #[.string s, .int .i64 f, .slice a1 n1 c1, .slice a2 n2 c2] 36) (.cells #[.int .i64 Y, .int .i64 M, .int .i64 D] 38)).then_ hb
  have b0 : Below w.heap.size w w1 := by (repeat' (first | exact Below.refl _ _ | assumption | refine Below.drew ?_ | refine below_drewN ?_ _ | refine below_new ?_ _ | refine below_set ?_ ?_ _ | refine below_then ?_ (by assumption) | refine below_drawn ?_ (by assumption) | exact Nat.le_refl _ | omega | (simp; done) | (simp; omega)))
  have atm2 : At w1 (w.heap.size + 1 + 1 + 1) (.cells #[.int .i64 12] 3) := by simpa using atm
  have ATM := Lib.hid atm2; have ATS := Lib.hid ats; have TK := Lib.hid htk
  clear hb atm atm2 ats htk
  go_wp2_with fail
  have Z1 := ATM.out.ints [12] (by unfold I64; simp) (by simp)
  have Z2 := ATS.out.ints_of _ TK.out (by simp [startsTo]) inI (by omega)
  have Z3 : (ByteArray.mk #[116, 97, 98, 108, 101]).size ≤ 9223372036854775807 := by decide
  have Z := observed_FromDay_ok _ _ _ _ _ _ 1 _ cap [12] (startsTo 13) 131 Z3 (by omega) (by omega) Z1 Z2 lit0
  rw [lit1] at Z
  refine Z.mono ?_
  clear Z Z1 Z2 Z3
  rw [show datV ⟨5, 2, 2, 0⟩ = .tuple #[.agg #[.int .i64 5, .int .i64 2, .int .i64 2], .int .i64 0] from rfl]
  rintro e w2 ⟨rfl, hb⟩
  replace a0 := a0.then_ hb
  replace ad := ad.then_ hb
  replace b0 := below_then b0 hb
  clear hb ATM ATS TK hg hc1 hc2
  have d0 := a0.cell 0; have d1 := a0.cell 1; have d2 := a0.cell 2; have d3 := a0.cell 3; simp at d0 d1 d2 d3
  have e0 := ad.cell 0; have e1 := ad.cell 1; have e2 := ad.cell 2; simp at e0 e1 e2
  have hl0 := a0.lt; have hl1 := ad.lt
  go_wp2_with fail
  replace a0 := a0.alloc (.cells #[.int .i64 5, .int .i64 2, .int .i64 2] 38)
  replace ad := ad.alloc (.cells #[.int .i64 5, .int .i64 2, .int .i64 2] 38)
  replace b0 := below_new b0 (.cells #[.int .i64 5, .int .i64 2, .int .i64 2] 38)
  clear hl0 hl1
  generalize World.alloc w2 _ = w3 at a0 ad b0 ⊢
  by_cases q : tableErr s f ms ss = 0
  case neg =>
    have q' : (tableErr s f ms ss != 0) = true := by simpa using q
    refine (observed_ToDay_err _ _ _ _ _ _ _ _ _ ms ss _ _ _ hs f1 f2 k1 (then2 H1.out b0) (then2 H2.out b0) q).mono ?_
    rintro e w4 ⟨rfl, hb⟩
    (replace a0 := a0.then_ hb); (replace ad := ad.then_ hb); (replace b0 := below_then b0 hb); clear hb d0 d1 d2 d3 e0 e1 e2; have d0 := a0.cell 0; have d1 := a0.cell 1; have d2 := a0.cell 2; have d3 := a0.cell 3; simp at d0 d1 d2 d3; have e0 := ad.cell 0; have e1 := ad.cell 1; have e2 := ad.cell 2; simp at e0 e1 e2
    go_wp2_with fail
    refine (observed_FromDay_err _ _ _ _ _ _ _ _ _ ms ss _ hs f1 f2 (then2 H1.out b0) (then2 H2.out b0) q).mono ?_
    rw [show datV ⟨0, 0, 0, tableErr s f ms ss⟩ = .tuple #[.agg #[.int .i64 0, .int .i64 0, .int .i64 0], .int .i64 (tableErr s f ms ss)] from rfl]
    rintro e w5 ⟨rfl, hb⟩
    (replace a0 := a0.then_ hb); (replace ad := ad.then_ hb); (replace b0 := below_then b0 hb); clear hb d0 d1 d2 d3 e0 e1 e2; have d0 := a0.cell 0; have d1 := a0.cell 1; have d2 := a0.cell 2; have d3 := a0.cell 3; simp at d0 d1 d2 d3; have e0 := ad.cell 0; have e1 := ad.cell 1; have e2 := ad.cell 2; simp at e0 e1 e2
    clear q
    have hl0 := a0.lt; have hl1 := ad.lt
    go_wp2_with fail
    refine (ref_TableError _ _ _ _ _ _ _ _ _ ms ss hs f1 f2 (then2 H1.out (below_new b0 _)) (then2 H2.out (below_new b0 _))).mono ?_
    rintro e w6 ⟨rfl, hb⟩
    have ax := (At.new w5 (.cells #[.int .i64 0, .int .i64 0, .int .i64 0] 38)).then_ hb
    have x0 := ax.cell 0; have x1 := ax.cell 1; have x2 := ax.cell 2; simp at x0 x1 x2
    go_wp2_with fail
    go_ret
    exact ⟨by simp, by (repeat' (first | exact Below.refl _ _ | assumption | refine Below.drew ?_ | refine below_drewN ?_ _ | refine below_new ?_ _ | refine below_set ?_ ?_ _ | refine below_then ?_ (by assumption) | refine below_drawn ?_ (by assumption) | exact Nat.le_refl _ | omega | (simp; done) | (simp; omega)))⟩
  have ok := tableOk_of q
  have HTG := Lib.hid (toGo_table ok Y M D)
  have HQ := Lib.hid q; have OK := Lib.hid ok; clear q ok
  refine (observed_ToDay_ok _ _ _ _ _ _ _ _ _ ms ss _ _ _ hs f1 f2 k1 (then2 H1.out b0) (then2 H2.out b0) y1 y2 m1 m2 HQ.out).mono ?_
  obtain ⟨G1, hG1⟩ : ∃ G1, G1 = (toDayOut f ms ss Y M D).1 := ⟨_, rfl⟩
  obtain ⟨G2, hG2⟩ : ∃ G2, G2 = (toDayOut f ms ss Y M D).2 := ⟨_, rfl⟩
  have HG1 := Lib.hid hG1; have HG2 := Lib.hid hG2
  rw [← hG1, ← hG2]
  clear hG1 hG2
  rintro e w4 ⟨rfl, hb⟩
  (replace a0 := a0.then_ hb); (replace ad := ad.then_ hb); (replace b0 := below_then b0 hb); clear hb d0 d1 d2 d3 e0 e1 e2; have d0 := a0.cell 0; have d1 := a0.cell 1; have d2 := a0.cell 2; have d3 := a0.cell 3; simp at d0 d1 d2 d3; have e0 := ad.cell 0; have e1 := ad.cell 1; have e2 := ad.cell 2; simp at e0 e1 e2
  go_wp2_with fail
  refine (observed_FromDay_ok _ _ _ _ _ _ _ _ _ ms ss _ hs f1 f2 (then2 H1.out b0) (then2 H2.out b0) HQ.out).mono ?_
  obtain ⟨R, hR⟩ : ∃ R, R = fromGo x (rowsAt ss 0 (yrs f ms)) := ⟨_, rfl⟩
  have HR := Lib.hid hR
  rw [← hR]
  clear hR
  obtain ⟨ry, rm, rd, re⟩ := R
  rw [show datV ⟨ry, rm, rd, re⟩ = .tuple #[.agg #[.int .i64 ry, .int .i64 rm, .int .i64 rd], .int .i64 re] from rfl]
  rintro e w5 ⟨rfl, hb⟩
  (replace a0 := a0.then_ hb); (replace ad := ad.then_ hb); (replace b0 := below_then b0 hb); clear hb d0 d1 d2 d3 e0 e1 e2; have d0 := a0.cell 0; have d1 := a0.cell 1; have d2 := a0.cell 2; have d3 := a0.cell 3; simp at d0 d1 d2 d3; have e0 := ad.cell 0; have e1 := ad.cell 1; have e2 := ad.cell 2; simp at e0 e1 e2
  have hl0 := a0.lt; have hl1 := ad.lt
  go_wp2_with fail
  refine (ref_TableError _ _ _ _ _ _ _ _ _ ms ss hs f1 f2 (then2 H1.out (below_new b0 _)) (then2 H2.out (below_new b0 _))).mono ?_
  rw [HQ.out]
  rintro e w6 ⟨rfl, hb⟩
  have ax := (At.new w5 (.cells #[.int .i64 ry, .int .i64 rm, .int .i64 rd] 38)).then_ hb
  replace a0 := (a0.alloc (.cells #[.int .i64 ry, .int .i64 rm, .int .i64 rd] 38)).then_ hb
  replace ad := (ad.alloc (.cells #[.int .i64 ry, .int .i64 rm, .int .i64 rd] 38)).then_ hb
  replace b0 := below_then (below_new b0 (.cells #[.int .i64 ry, .int .i64 rm, .int .i64 rd] 38)) hb
  clear hb d0 d1 d2 d3 e0 e1 e2; have d0 := a0.cell 0; have d1 := a0.cell 1; have d2 := a0.cell 2; have d3 := a0.cell 3; simp at d0 d1 d2 d3; have e0 := ad.cell 0; have e1 := ad.cell 1; have e2 := ad.cell 2; simp at e0 e1 e2
  go_wp2_with fail
  refine (ref_TableToDay _ _ _ _ _ _ _ _ _ ms ss _ _ _ dI1 dI2 (then2 H1.out b0) (then2 H2.out b0) OK.out).mono ?_
  rw [HTG.out, ← HG1.out, ← HG2.out]
  rintro e w7 ⟨rfl, hb⟩
  replace ax := ax.then_ hb
  (replace a0 := a0.then_ hb); (replace ad := ad.then_ hb); (replace b0 := below_then b0 hb); clear hb d0 d1 d2 d3 e0 e1 e2; have d0 := a0.cell 0; have d1 := a0.cell 1; have d2 := a0.cell 2; have d3 := a0.cell 3; simp at d0 d1 d2 d3; have e0 := ad.cell 0; have e1 := ad.cell 1; have e2 := ad.cell 2; simp at e0 e1 e2
  go_wp2_with fail
  refine (ref_TableFromDay _ _ _ _ _ _ _ _ _ ms ss _ (then2 H1.out b0) (then2 H2.out b0) OK.out).mono ?_
  rw [← HR.out]
  rw [show datV ⟨ry, rm, rd, re⟩ = .tuple #[.agg #[.int .i64 ry, .int .i64 rm, .int .i64 rd], .int .i64 re] from rfl]
  rintro e w8 ⟨rfl, hb⟩
  replace ax := ax.then_ hb
  have x0 := ax.cell 0; have x1 := ax.cell 1; have x2 := ax.cell 2; simp at x0 x1 x2
  replace b0 := below_then b0 hb
  have hlx := ax.lt
  clear hb
  go_wp2_with fail
  go_ret
  exact ⟨by simp, by (repeat' (first | exact Below.refl _ _ | assumption | refine Below.drew ?_ | refine below_drewN ?_ _ | refine below_new ?_ _ | refine below_set ?_ ?_ _ | refine below_then ?_ (by assumption) | refine below_drawn ?_ (by assumption) | exact Nat.le_refl _ | omega | (simp; done) | (simp; omega)))⟩
theorem walk {H : Type} {enc : TypeId × Value → H} {v0 v1 v2 : Value} {d0 d1 d2 : DataW H} {p0 p1 p2 : List MemPlace} {base : Nat} (W : World)
    (o0 : Value.okWide Try.prog W .any base 36 v0) (h0 : DataW.Trod enc Try.prog W 0 (fun _ => true) true 36 v0 d0 p0)
    (o1 : Value.okWide Try.prog W .any base 38 v1) (h1 : DataW.Trod enc Try.prog W 0 (fun _ => true) true 38 v1 d1 p1)
    (o2 : Value.okWide Try.prog W .any base 3 v2) (h2 : DataW.Trod enc Try.prog W 0 (fun _ => true) true 3 v2 d2 p2) :
    Calls Try.prog 5 #[v0, v1, v2] W fun e w' => e = .returned (.bool true) ∧ Below W.heap.size W w' := by
  obtain ⟨cs, n, rfl, hl, hf⟩ := open_agg Try.underlying36 (by kernel_rfl) (by kernel_rfl) o0 h0
  obtain ⟨ds, nd, rfl, hld, hfd⟩ := open_agg Try.underlying38 (by kernel_rfl) (by kernel_rfl) o1 h1
  obtain ⟨x, rfl, rfl, rfl, wx⟩ := open_int Try.underlying3 o2 h2
  match cs, hl, ds, hld with
  | [v0, v1, v2, v3], _, [u0, u1, u2], _ =>
    obtain ⟨_, _, e0, t0⟩ := hf 0 _ rfl
    obtain ⟨_, _, e1, t1⟩ := hf 1 _ rfl
    obtain ⟨_, _, e2, t2⟩ := hf 2 _ rfl
    obtain ⟨_, _, e3, t3⟩ := hf 3 _ rfl
    obtain ⟨_, _, g0, r0⟩ := hfd 0 _ rfl
    obtain ⟨_, _, g1, r1⟩ := hfd 1 _ rfl
    obtain ⟨_, _, g2, r2⟩ := hfd 2 _ rfl
    obtain ⟨s, rfl, hs⟩ := open_str t0
    obtain ⟨x1, rfl, hx1⟩ := open_num t1
    obtain ⟨a1, n1, c1, ms, rfl, k1, m1, i1⟩ := open_Ints t2
    obtain ⟨a2, n2, c2, ss, rfl, k2, m2, i2⟩ := open_Ints t3
    obtain ⟨y, rfl, hy⟩ := open_num r0
    obtain ⟨m, rfl, hm⟩ := open_num r1
    obtain ⟨d, rfl, hd⟩ := open_num r2
    simp at e0 e1 e2 e3 g0 g1 g2
    subst e0 e1 e2 e3 g0 g1 g2
    exact core W s x1 a1 a2 n1 c1 n2 c2 ms ss y m d x hs hx1.1 hx1.2 k1 hy.1 hy.2 hm.1 hm.2 hd.1 hd.2 i1 i2
end Go.Proofs.Ytkeicdimkmmnfaa.observedDatesLaw
