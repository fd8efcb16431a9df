/- CycleNexts: the Go text returns true at every input, and writes nothing that was there. -/
import Derived.Test.YtkeicdimkmmnfaaNext6
import Derived.ProofKit
import Derived.OpenShut
namespace Go.Proofs.Ytkeicdimkmmnfaa.cycleNextsLaw
set_option linter.unusedVariables false
set_option maxRecDepth 100000
open Go.RowKit Go.ChangeShapes Go.WideShapes Go.Joins

theorem lit0 : argErr [5, 7] [0, 0] [2, 5] 13 = 0 := by decide
theorem fits47 : Fits [5, 7] [0, 0] [2, 5] 2 47 := by
  intro j x y z hj hx hy hz
  match j, hj with
  | 0, _ => simp at hx hy hz; subst hx hy hz; decide
  | 1, _ => simp at hx hy hz; subst hx hy hz; decide
theorem lit1 {e : Ending} (h : NextRet 2 [5, 7] [0, 0] [2, 5] 13 e) : e = .returned (.tuple #[.int .i64 47, .int .i64 0]) := by
  rcases h with ⟨D, h1, h2, hf, hn, rfl⟩ | ⟨hn, rfl⟩
  · have e1 := hf 0 5 0 2 (by omega) rfl rfl rfl
    have e2 := hf 1 7 0 5 (by omega) rfl rfl rfl
    have e3 : D ≤ 47 := by
      apply Classical.byContradiction
      intro h
      exact hn 47 (by omega) (by omega) fits47
    obtain rfl : D = 47 := by omega
    rfl
  · exact absurd fits47 (hn 47 (by omega) (by omega))
theorem new4 (w : World) (o o1 o2 o3 o4 : Obj) : At (((((w.alloc o).alloc o1).alloc o2).alloc o3).alloc o4) (w.heap.size + 1 + 1 + 1 + 1) o4 := by
  have := At.new3 (w.alloc o) o1 o2 o3 o4; simpa using this
theorem then2 {w w' : World} {a : Option Addr} {n : Nat} {xs : List Int} (h : Ints w w.heap.size a n xs) (hb : Below w.heap.size w w') : Ints w' w'.heap.size a n xs := (h.below hb (Nat.le_refl _)).more hb.size
set_option maxHeartbeats 4000000 in
theorem core (w : World) (a1 a2 : Option Addr) (n1 c1 n2 c2 : Nat) (xs ys : List Int) (d : Int) (a3 : Option Addr) (n3 c3 : Nat) (zs : List Int) (h1 : Ints w w.heap.size a1 n1 xs) (h2 : Ints w w.heap.size a2 n2 ys) (h3 : Ints w w.heap.size a3 n3 zs) :
    Calls Try.prog 3 #[.agg #[.slice a1 n1 c1, .slice a2 n2 c2], .int .i64 d, .slice a3 n3 c3] w fun e w' => e = .returned (.bool true) ∧ Below w.heap.size w w' := by
  have L1 := Lib.hid h1.1; have L2 := Lib.hid h2.1; have L3 := Lib.hid h3.1
  have H1 := Lib.hid h1; have H2 := Lib.hid h2; have H3 := Lib.hid h3; clear h1 h2 h3
  have k1 : ∀ (o o1 o2 o3 o4 : Obj), o1 = .cells #[.int .i64 5, .int .i64 7] 3 → Ints (((((w.alloc o).alloc o1).alloc o2).alloc o3).alloc o4) (((((w.alloc o).alloc o1).alloc o2).alloc o3).alloc o4).heap.size (some ⟨w.heap.size + 1, 0, none⟩) 2 [5, 7] :=
    fun o o1 o2 o3 o4 h => At.ints [5, 7] ((((At.new1 w o o1).alloc o2).alloc o3).alloc o4 |> fun x => by subst h; exact x) (by unfold I64; simp) (by simp)
  have k2 : ∀ (o o1 o2 o3 o4 : Obj), o2 = .cells #[.int .i64 0, .int .i64 0] 3 → Ints (((((w.alloc o).alloc o1).alloc o2).alloc o3).alloc o4) (((((w.alloc o).alloc o1).alloc o2).alloc o3).alloc o4).heap.size (some ⟨w.heap.size + 1 + 1, 0, none⟩) 2 [0, 0] :=
    fun o o1 o2 o3 o4 h => At.ints [0, 0] (((At.new2 w o o1 o2).alloc o3).alloc o4 |> fun x => by subst h; exact x) (by unfold I64; simp) (by simp)
  have k3 : ∀ (o o1 o2 o3 o4 : Obj), o4 = .cells #[.int .i64 2, .int .i64 5] 3 → Ints (((((w.alloc o).alloc o1).alloc o2).alloc o3).alloc o4) (((((w.alloc o).alloc o1).alloc o2).alloc o3).alloc o4).heap.size (some ⟨w.heap.size + 1 + 1 + 1 + 1, 0, none⟩) 2 [2, 5] :=
    fun o o1 o2 o3 o4 h => At.ints [2, 5] ((new4 w o o1 o2 o3 o4) |> fun x => by subst h; exact x) (by unfold I64; simp) (by simp)
  have K1 := Lib.hid k1; have K2 := Lib.hid k2; have K3 := Lib.hid k3; clear k1 k2 k3
  go_enter Try.func3, Try.ntmps3
  go_wp2_with fail
  refine (cycle_Next_ok _ _ _ 2 2 2 2 [5, 7] [0, 0] 13 _ 2 2 [2, 5] lit0 (K1.out _ _ _ _ _ rfl) (K2.out _ _ _ _ _ rfl) (K3.out _ _ _ _ _ rfl)).mono ?_
  rintro e w1 ⟨ho, hb⟩
  obtain rfl := lit1 ho
  have a0 := ((((At.new w (.cells #[.slice a1 n1 c1, .slice a2 n2 c2] 24)).alloc (.cells #[.int .i64 5, .int .i64 7] 3)).alloc (.cells #[.int .i64 0, .int .i64 0] 3)).alloc (.cells #[.slice (some ⟨w.heap.size + 1, 0, none⟩) 2 2, .slice (some ⟨w.heap.size + 1 + 1, 0, none⟩) 2 2] 24)).alloc (.cells #[.int .i64 2, .int .i64 5] 3)
  replace a0 := a0.then_ hb
  have b0 : Below w.heap.size w w1 := by (repeat' (first | exact Below.refl _ _ | assumption | refine Below.drew ?_ | refine below_drewN ?_ _ | refine below_new ?_ _ | refine below_set ?_ ?_ _ | refine below_then ?_ (by assumption) | refine below_drawn ?_ (by assumption) | exact Nat.le_refl _ | omega | (simp; done) | (simp; omega)))
  clear hb K1 K2 K3 ho
  have d0 := a0.cell 0; have d1 := a0.cell 1; simp at d0 d1
  go_wp2_with fail
  by_cases q : argErr xs ys zs d = 0
  case neg =>
    have q' : (argErr xs ys zs d != 0) = true := by simpa using q
    refine (cycle_Next_err _ _ _ _ _ _ _ xs ys d _ _ _ zs q (then2 H1.out b0) (then2 H2.out b0) (then2 H3.out b0)).mono ?_
    rintro e w3 ⟨rfl, hb⟩
    (replace a0 := a0.then_ hb); (replace b0 := below_then b0 hb); clear hb d0 d1; have d0 := a0.cell 0; have d1 := a0.cell 1; simp at d0 d1
    clear q
    go_wp2_with fail
    refine (law_cycleError _ _ _ _ _ _ _ xs ys d _ _ _ zs (then2 H1.out b0) (then2 H2.out b0) (then2 H3.out b0)).mono ?_
    rintro e w5 ⟨rfl, hb⟩
    go_wp2_with fail
    go_ret
    exact ⟨by simp, by (repeat' (first | exact Below.refl _ _ | assumption | refine Below.drew ?_ | refine below_drewN ?_ _ | refine below_new ?_ _ | refine below_set ?_ ?_ _ | refine below_then ?_ (by assumption) | refine below_drawn ?_ (by assumption) | exact Nat.le_refl _ | omega | (simp; done) | (simp; omega)))⟩
  obtain ⟨q1, q2, q3, q4⟩ := argErr_zero q
  have ok := setOk_of q1
  have hd : -4000000 ≤ d ∧ d ≤ 4000000 := by
    rcases inB_cases (-4000000) 4000000 d with ⟨_, h⟩ | ⟨h, _⟩
    · exact h
    · rw [h] at q2; cases q2
  obtain ⟨dd1, dd2⟩ := hd
  have FP := Lib.hid (fun X => fits_places (d := X) L1.out (show ys.length = n1 by rw [ok.len]; exact L1.out) (show zs.length = n1 by rw [q3]; exact L1.out))
  have HE := Lib.hid q; have OK := Lib.hid ok; have Q3 := Lib.hid q3
  clear q q1 q2 q3 q4 ok
  have t0 : IntKind.i64.wrap (d + 6000) = d + 6000 := IntWalk.i64_in _ (by omega)
  refine (cycle_Next_ok _ _ _ _ _ _ _ xs ys d _ _ _ zs HE.out (then2 H1.out b0) (then2 H2.out b0) (then2 H3.out b0)).mono ?_
  rintro e w3 ⟨ho, hb⟩
  (replace a0 := a0.then_ hb); (replace b0 := below_then b0 hb); clear hb d0 d1; have d0 := a0.cell 0; have d1 := a0.cell 1; simp at d0 d1
  rcases ho with ⟨D, e1, e2, hf, hn, rfl⟩ | ⟨hn, rfl⟩
  · have HF := Lib.hid hf; have HN := Lib.hid hn; clear hf hn
    go_wp2_with fail
    refine (law_cycleError _ _ _ _ _ _ _ xs ys d _ _ _ zs (then2 H1.out b0) (then2 H2.out b0) (then2 H3.out b0)).mono ?_
    rw [HE.out]
    rintro e w5 ⟨rfl, hb⟩
    (replace a0 := a0.then_ hb); (replace b0 := below_then b0 hb); clear hb d0 d1
    go_wp2_with fail
    go_loopw [13] (fun x wr => ∃ X : Int, x = .int .i64 X ∧ d ≤ X ∧ X ≤ D ∧ At wr w.heap.size (.cells #[.slice a1 n1 c1, .slice a2 n2 c2] 24) ∧ Below w.heap.size w wr) (fun x _ => (4000001 - intOf x).toNat)
    case atStart => exact ⟨d, rfl, by omega, e1, a0, b0⟩
    case round =>
      clear a0 b0
      obtain ⟨X, rfl, x1, x2, a0, b0⟩ := hrel
      have d0 := a0.cell 0; have d1 := a0.cell 1; simp at d0 d1
      have t1 : IntKind.i64.wrap (X + 1) = X + 1 := IntWalk.i64_in _ (by omega)
      have x3 : X ≤ 4000000 := by omega
      by_cases hX : X ≤ d + 6000
      · go_wp2_with fail
        refine (ref_SetAt _ _ _ _ _ _ _ xs ys X _ _ _ zs (by omega) (by omega) OK.out (then2 H1.out b0) (then2 H2.out b0) (then2 H3.out b0) Q3.out).mono ?_
        by_cases hXD : X = D
        · subst hXD
          rw [(FP.out X).2 HF.out]
          rintro e w6 ⟨rfl, hb⟩
          go_wp2_with fail
          go_ret
          exact ⟨by simp, by (repeat' (first | exact Below.refl _ _ | assumption | refine Below.drew ?_ | refine below_drewN ?_ _ | refine below_new ?_ _ | refine below_set ?_ ?_ _ | refine below_then ?_ (by assumption) | refine below_drawn ?_ (by assumption) | exact Nat.le_refl _ | omega | (simp; done) | (simp; omega)))⟩
        · have hno : (places X xs ys == zs) = false := by
            cases hc : (places X xs ys == zs)
            · rfl
            · exact absurd ((FP.out X).1 hc) (HN.out X x1 (by omega))
          rw [hno]
          rintro e w6 ⟨rfl, hb⟩
          (replace a0 := a0.then_ hb); (replace b0 := below_then b0 hb); clear hb d0 d1 hno
          go_wp2_with fail
          go_roundw
          case rel => exact ⟨X + 1, by go_num, by omega, by omega, a0, b0⟩
          case measure => simp [intOf]; omega
      · have hD : d + 6000 < D := by omega
        by_cases hD0 : D = 0
        all_goals
          go_wp2_with fail
          refine (ref_SetAt _ _ _ _ _ _ _ xs ys _ _ _ _ zs (by omega) (by omega) OK.out (then2 H1.out b0) (then2 H2.out b0) (then2 H3.out b0) Q3.out).mono ?_
          rw [(FP.out _).2 (by first | exact HF.out | (rw [← hD0]; exact HF.out))]
          rintro e w6 ⟨rfl, hb⟩
          go_wp2_with fail
          go_ret
          exact ⟨by simp, by (repeat' (first | exact Below.refl _ _ | assumption | refine Below.drew ?_ | refine below_drewN ?_ _ | refine below_new ?_ _ | refine below_set ?_ ?_ _ | refine below_then ?_ (by assumption) | refine below_drawn ?_ (by assumption) | exact Nat.le_refl _ | omega | (simp; done) | (simp; omega)))⟩
  · have HN := Lib.hid hn; clear hn
    go_wp2_with fail
    refine (law_cycleError _ _ _ _ _ _ _ xs ys d _ _ _ zs (then2 H1.out b0) (then2 H2.out b0) (then2 H3.out b0)).mono ?_
    rw [HE.out]
    rintro e w5 ⟨rfl, hb⟩
    (replace a0 := a0.then_ hb); (replace b0 := below_then b0 hb); clear hb d0 d1
    go_wp2_with fail
    go_loopw [13] (fun x wr => ∃ X : Int, x = .int .i64 X ∧ d ≤ X ∧ X ≤ 4000001 ∧ At wr w.heap.size (.cells #[.slice a1 n1 c1, .slice a2 n2 c2] 24) ∧ Below w.heap.size w wr) (fun x _ => (4000001 - intOf x).toNat)
    case atStart => exact ⟨d, rfl, by omega, by omega, a0, b0⟩
    case round =>
      clear a0 b0
      obtain ⟨X, rfl, x1, x2, a0, b0⟩ := hrel
      have d0 := a0.cell 0; have d1 := a0.cell 1; simp at d0 d1
      have t1 : IntKind.i64.wrap (X + 1) = X + 1 := IntWalk.i64_in _ (by omega)
      by_cases hX : X ≤ 4000000 ∧ X ≤ d + 6000
      · obtain ⟨x3, x4⟩ := hX
        have hno : (places X xs ys == zs) = false := by
            cases hc : (places X xs ys == zs)
            · rfl
            · exact absurd ((FP.out X).1 hc) (HN.out X x1 (by omega))
        have HNO := Lib.hid hno; clear hno
        go_wp2_with fail
        refine (ref_SetAt _ _ _ _ _ _ _ xs ys X _ _ _ zs (by omega) (by omega) OK.out (then2 H1.out b0) (then2 H2.out b0) (then2 H3.out b0) Q3.out).mono ?_
        rw [HNO.out]
        rintro e w6 ⟨rfl, hb⟩
        (replace a0 := a0.then_ hb); (replace b0 := below_then b0 hb); clear hb d0 d1
        go_wp2_with fail
        go_roundw
        case rel => exact ⟨X + 1, by go_num, by omega, by omega, a0, b0⟩
        case measure => simp [intOf]; omega
      · have hcs : 4000000 < X ∨ (X ≤ 4000000 ∧ d + 6000 < X) := by omega
        clear hX
        rcases hcs with x3 | ⟨x3, x4⟩
        all_goals
          go_wp2_with fail
          go_ret
          exact ⟨by simp, b0⟩
theorem walk {H : Type} {enc : TypeId × Value → H} {v0 v1 v2 : Value} {d0 d1 d2 : DataW H} {p0 p1 p2 : List MemPlace} {base : Nat} (W : World)
    (o0 : Value.okWide Try.prog W .any base 24 v0) (h0 : DataW.Trod enc Try.prog W 0 (fun _ => true) true 24 v0 d0 p0)
    (o1 : Value.okWide Try.prog W .any base 3 v1) (h1 : DataW.Trod enc Try.prog W 0 (fun _ => true) true 3 v1 d1 p1)
    (o2 : Value.okWide Try.prog W .any base 22 v2) (h2 : DataW.Trod enc Try.prog W 0 (fun _ => true) true 22 v2 d2 p2) :
    Calls Try.prog 3 #[v0, v1, v2] W fun e w' => e = .returned (.bool true) ∧ Below W.heap.size W w' := by
  obtain ⟨u0, u1, y0, y1, n, rfl, -, -, t0, t1⟩ := open_agg2 Try.underlying24 (by kernel_rfl) (by kernel_rfl) o0 h0
  obtain ⟨a1, n1, c1, xs, rfl, _, _, g1⟩ := open_Ints t0
  obtain ⟨a2, n2, c2, ys, rfl, _, _, g2⟩ := open_Ints t1
  obtain ⟨d, rfl, rfl, rfl, wd⟩ := open_int Try.underlying3 o1 h1
  obtain ⟨a3, n3, c3, rfl⟩ := okWide_slice Try.underlying22 o2
  obtain ⟨fuel, hf⟩ := h2
  obtain ⟨b3, m3, k3, zs, e, _, _, g3⟩ := open_Ints (by simpa [Value.cells] using hf)
  injection e with e1 e2 e3
  subst e1 e2 e3
  exact core W a1 a2 n1 c1 n2 c2 xs ys d _ _ _ zs g1 g2 g3
end Go.Proofs.Ytkeicdimkmmnfaa.cycleNextsLaw
