import Derived.Test.YtlbjmpdonnlieaaGreatDoorRows
import Derived.Test.YtlbjmpdonnlieaaGreatDoorMgPb
namespace Go.Proofs.YtlbjmpdonnlieaaGreatDoor.periodPeriodsLaw
set_option linter.unusedVariables false
set_option linter.unusedSimpArgs false
set_option maxRecDepth 100000
open Go.RowKit Go.ChangeShapes Go.WideShapes Go.Shelf
theorem leap_err : fstErr (.node 1 2 29 gregB []) = 0 := by decide +kernel
def leapB : Bool := match rowOf gregB.data.toList with
  | none => false
  | some r => decide (daysTo (shortOf (msL r)) (longOf (msL r)) (lsL r) (calN r : Int) = 146097)
theorem leap_b : leapB = true := by decide +kernel
theorem leap_per : perP (.node 1 2 29 gregB []) = 146097 := by
  rw [perP_node, if_neg (by omega), perRow_nil, if_neg (by simp)]
  unfold baseP totN
  rw [if_pos (by decide)]
  have h := leap_b
  unfold leapB at h
  cases hr : rowOf gregB.data.toList with
  | none => rw [hr] at h; exact absurd h (by simp)
  | some r => rw [hr] at h; exact of_decide_eq_true h
theorem leap_out : perOut (.node 1 2 29 gregB []) = (146097, 0) := by
  unfold perOut perOk
  rw [if_neg (by rw [leap_err]; simp), leap_per]; rfl
set_option maxHeartbeats 4000000 in
theorem core (w : World) (m : Int) (hm : w.cell? ⟨1, 0, none⟩ = some (.int .i64 m)) (hlv : Lvl w) (hsg : Sgn w) (k a b : Int) (s : ByteArray) (ks : List Fst) (ad : Option Addr) (n c : Nat) (h : FSub w w.heap.size (.node k a b s ks) ad n) (hc : n ≤ c) (hm' : c ≤ 9223372036854775807) :
    Calls Tryz.prog 4 #[.agg (fV k a b s ad n c)] w fun e w' => e = .returned (.bool true) ∧ Below w.heap.size w w' := by
  have CL := Lib.hid (fun (W : World) (hW : Below w.heap.size w W) => period_Period w m hm hlv hsg 1 2 29 gregB [] W none 0 0 (fsub_leaf (by unfold I64; omega) (by unfold I64; omega) (by unfold I64; omega) (by decide) none) hW (by omega) (by omega))
  rw [leap_out] at CL
  obtain ⟨E, hE⟩ : ∃ E, E = perOut (.node k a b s ks) := ⟨_, rfl⟩
  have CP := Lib.hid (fun (W : World) (hW : Below w.heap.size w W) => period_Period w m hm hlv hsg k a b s ks W ad n c h hW hc hm')
  have CE := Lib.hid (fun (W : World) (hW : Below w.heap.size w W) => law_periodError w m hm hlv hsg k a b s ks W ad n c h hW hc hm')
  rw [← hE] at CP CE
  obtain ⟨e1, e2⟩ := E
  clear hm hlv hsg h hE
  have o0 := One.new w (fO k a b s ad n c)
  go_enter Tryz.func4, Tryz.ntmps4
  go_upto_region 1 with fail
  generalize World.alloc w _ = W0 at o0 ⊢
  have hq0 : Below w.heap.size w W0 := o0.2
  have o1 := o0.1
  clear o0
  go_wp2_with fail
  refine (law_leapDay _).mono ?_
  rintro e w1 ⟨rfl, hb⟩
  have hq1 := below_then hq0 hb
  replace o1 := o1.then_ hb
  clear hb
  go_wp2_with fail
  refine (CL.out _ hq1).mono ?_
  rintro e w2 ⟨rfl, hb⟩
  have hq2 := below_then hq1 hb
  replace o1 := o1.then_ hb
  clear hb
  have d0 := o1.cell 0; have d1 := o1.cell 1; have d2 := o1.cell 2; have d3 := o1.cell 3; have d4 := o1.cell 4; simp at d0 d1 d2 d3 d4
  go_wp2_with fail
  refine (CP.out _ hq2).mono ?_
  rintro e w3 ⟨rfl, hb⟩
  have hq3 := below_then hq2 hb
  replace o1 := o1.then_ hb
  clear d0 d1 d2 d3 d4 hb
  have d0 := o1.cell 0; have d1 := o1.cell 1; have d2 := o1.cell 2; have d3 := o1.cell 3; have d4 := o1.cell 4; simp at d0 d1 d2 d3 d4
  go_wp2_with fail
  refine (CE.out _ hq3).mono ?_
  rintro e w4 ⟨rfl, hb⟩
  have hq4 := below_then hq3 hb
  clear d0 d1 d2 d3 d4 hb
  go_wp2_with fail
  go_ret
  exact ⟨ret_bool (by simp), hq4⟩
theorem walk {H : Type} {enc : TypeId × Value → H} {v0 : Value} {d0 : DataW H} {p0 : List MemPlace} {base : Nat} (W : World)
    (o0 : Value.okWide Tryz.prog W .any base 24 v0) (h0 : DataW.Trod enc Tryz.prog W 0 (fun _ => true) true 24 v0 d0 p0)
    (hL : laidMet Tryz.prog Rows.periodPeriodsRow.laid W) (hsh : W.ShapedOpen Tryz.prog) :
    Calls Tryz.prog 4 #[v0] W fun e w' => e = .returned (.bool true) ∧ Below W.heap.size W w' := by
  exact q35
end Go.Proofs.YtlbjmpdonnlieaaGreatDoor.periodPeriodsLaw
