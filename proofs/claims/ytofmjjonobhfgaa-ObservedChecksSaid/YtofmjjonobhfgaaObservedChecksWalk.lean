/- ObservedChecks: the Go text returns true at every input, and writes nothing that was there. -/
import Derived.Test.YtofmjjonobhfgaaObserved
import Derived.Test.YtofmjjonobhfgaaYear12
import Derived.Test.YtofmjjonobhfgaaRows2
import Derived.RegionTactic
import Derived.ChangeAlike
namespace Go.Proofs.Ytofmjjonobhfgaa.observedChecksLaw
set_option linter.unusedVariables false
open Go.RowKit Go.ChangeShapes Go.WideShapes

def badStarts : List Int := [100, 130, 160, 160, 220, 250, 280, 310, 340, 370, 400, 430, 460]
theorem lit0 : tableErr ⟨#[116, 97, 98, 108, 101]⟩ 5 [12] (startsTo 13) = 0 := by decide +kernel
theorem lit1 : tableErr ⟨#[116, 97, 98, 108, 101]⟩ 5 [12] badStarts = 9 := by decide +kernel
theorem inI (x : Int) (h : x ∈ startsTo 13) : I64 x := by
  simp only [startsTo, List.mem_map, List.mem_range] at h
  obtain ⟨j, hj, rfl⟩ := h
  unfold I64; omega
theorem inI' (x : Int) (h : x ∈ badStarts) : I64 x := by
  simp only [badStarts, List.mem_cons, List.not_mem_nil, or_false] at h
  unfold I64; omega
set_option maxHeartbeats 1000000 in
theorem core (w : World) (s : ByteArray) (f : Int) (a1 a2 : Option Addr) (n1 c1 n2 c2 : Nat) (ms ss : List Int) (hs : s.size ≤ 9223372036854775807) (f1 : -9223372036854775808 ≤ f) (f2 : f ≤ 9223372036854775807)
    (h1 : Ints w w.heap.size a1 n1 ms) (h2 : Ints w w.heap.size a2 n2 ss) :
    Calls Try.prog 13 #[.agg #[.string s, .int .i64 f, .slice a1 n1 c1, .slice a2 n2 c2]] w fun e w' => e = .returned (.bool true) ∧ Below w.heap.size w w' := by
  have H1 := Lib.hid h1; have H2 := Lib.hid h2; clear h1 h2
  go_enter Try.func13, Try.ntmps13
  go_wp2_with fail
  refine (law_year12 _).mono ?_
  rintro e w1 ⟨g, cap, cur, rfl, atm, ats, htk, hg, hc1, hc2, hb1⟩
  simp only [World.size_alloc] at atm hg
  have hs1 : w.heap.size + 1 ≤ w1.heap.size := by have := hb1.size; simp at this; omega
  have B1 : Below w.heap.size w w1 := ((Below.refl _ _).alloc (Nat.le_refl _) _).trans (hb1.mono (by simp))
  have at0 : At w1 w.heap.size (.cells #[.string s, .int .i64 f, .slice a1 n1 c1, .slice a2 n2 c2] 58) := (At.new w _).below hb1 (by simp)
  have hl : 13 ≤ cur.size := by
    have := congrArg List.length htk
    rw [List.length_take, List.length_map] at this
    simp [startsTo] at this; omega
  have e2 : cur[2]? = some (.int .i64 160) := by
    have := congrArg (fun l : List Value => l[2]?) htk
    simpa [startsTo, List.range_succ] using this
  have e3 : ∃ u, cur[3]? = some u := ⟨_, Array.getElem?_eq_getElem (by omega)⟩
  obtain ⟨u3, e3⟩ := e3
  have k2 := (ats.cell 2).trans e2
  have k3 := (ats.cell 3).trans e3
  have z3 := ats.frozen 3
  have hg2 := ats.lt
  have BB1 := Lib.hid B1; have HB1 := Lib.hid hb1; have AT0 := Lib.hid at0; have ATM := Lib.hid atm; have ATS := Lib.hid ats; have HTK := Lib.hid htk
  clear B1 hb1 at0 atm ats htk e2 e3
  go_wp2_with fail
  go_region
  generalize hW : World.drew _ = W2
  have hx0 : At W2 w.heap.size (.cells #[.string s, .int .i64 f, .slice a1 n1 c1, .slice a2 n2 c2] 58) := by
    rw [← hW]; exact ((AT0.out.far (by simp; omega) _).alloc _).drew
  have hxm : At W2 (w.heap.size + 1 + 1) (.cells #[.int .i64 12] 3) := by
    rw [← hW]; exact ((ATM.out.far (by simp; omega) _).alloc _).drew
  have hxs : At W2 g (.cells (cur.setIfInBounds 3 (.int .i64 160)) 3) := by
    rw [← hW]; exact ((ATS.out.set 3 _).alloc _).drew
  have hxb : At W2 w1.heap.size (.cells #[.string ⟨#[116, 97, 98, 108, 101]⟩, .int .i64 5, .slice (some ⟨w.heap.size + 1 + 1, 0, none⟩) 1 1, .slice (some ⟨g, 0, none⟩) 13 cap] 58) := by
    rw [← hW]; have := At.new (w1.setCell ⟨g, 3, none⟩ (.int .i64 160)) (.cells #[.string ⟨#[116, 97, 98, 108, 101]⟩, .int .i64 5, .slice (some ⟨w.heap.size + 1 + 1, 0, none⟩) 1 1, .slice (some ⟨g, 0, none⟩) 13 cap] 58)
    simpa [World.setCell] using this.drew
  have hB2 : Below w.heap.size w W2 := by
    rw [← hW]; exact ((BB1.out.setCell (by simp; omega) _).alloc (by simp [World.setCell]; omega) _).drew
  have htk : (cur.setIfInBounds 3 (.int .i64 160)).toList.take 13 = badStarts.map (Value.int .i64) := by
    have h := HTK.out
    rw [Array.toList_setIfInBounds, List.take_set, h]
    rfl
  have hc0 := hx0.cell 0
  have hc1' := hx0.cell 1
  have hc2' := hx0.cell 2
  have hc3 := hx0.cell 3
  have hd0 := hxb.cell 0
  have hd1 := hxb.cell 1
  have hd2 := hxb.cell 2
  have hd3 := hxb.cell 3
  simp at hc0 hc1' hc2' hc3 hd0 hd1 hd2 hd3
  have HX0 := Lib.hid hx0; have HXM := Lib.hid hxm; have HXS := Lib.hid hxs; have HXB := Lib.hid hxb; have B2 := Lib.hid hB2; have TK := Lib.hid htk
  have lt0 := hx0.lt; have ltb := hxb.lt; have ltm := hxm.lt; have lts := hxs.lt
  clear hx0 hxm hxs hxb hB2 htk hW k2 k3 z3
  go_wp2_with fail
  refine (law_year12 _).mono ?_
  rintro e w3 ⟨g', cap', cur', rfl, atm', ats', htk', hg', hc1'', hc2'', hb3⟩
  go_wp2_with fail
  refine (observed_Check _ _ _ _ _ _ _ _ _ [12] (startsTo 13) (by decide) (by omega) (by omega) (atm'.ints [12] (by unfold I64; simp) (by simp)) (ats'.ints_of _ htk' (by simp [startsTo]) inI (by omega))).mono ?_
  rw [lit0]
  rintro e w4 ⟨rfl, hb4⟩
  have hb24 : Below W2.heap.size W2 w4 := hb3.trans (hb4.mono hb3.size)
  have hc0 := (hb24.cell (p := ⟨w.heap.size, 0, none⟩) lt0).trans hc0
  have hc1' := (hb24.cell (p := ⟨w.heap.size, 1, none⟩) lt0).trans hc1'
  have hc2' := (hb24.cell (p := ⟨w.heap.size, 2, none⟩) lt0).trans hc2'
  have hc3 := (hb24.cell (p := ⟨w.heap.size, 3, none⟩) lt0).trans hc3
  have hd0 := (hb24.cell (p := ⟨w1.heap.size, 0, none⟩) ltb).trans hd0
  have hd1 := (hb24.cell (p := ⟨w1.heap.size, 1, none⟩) ltb).trans hd1
  have hd2 := (hb24.cell (p := ⟨w1.heap.size, 2, none⟩) ltb).trans hd2
  have hd3 := (hb24.cell (p := ⟨w1.heap.size, 3, none⟩) ltb).trans hd3
  have B24 := Lib.hid hb24
  clear hb3 hb4 hb24 atm' ats' htk'
  go_wp2_with fail
  refine (observed_Check _ _ _ _ _ _ _ _ _ [12] badStarts (by decide) (by omega) (by omega) ((HXM.out.below B24.out ltm).ints [12] (by unfold I64; simp) (by simp)) ((HXS.out.below B24.out lts).ints_of _ TK.out (by rfl) inI' (by omega))).mono ?_
  rw [lit1]
  rintro e w5 ⟨rfl, hb5⟩
  have hb05 : Below w.heap.size w w5 := (B2.out.trans (B24.out.mono B2.out.size)).trans (hb5.mono (Nat.le_trans B2.out.size B24.out.size))
  have lt4 : w.heap.size < w4.heap.size := Nat.lt_of_lt_of_le lt0 B24.out.size
  have d0 := (hb5.cell (p := ⟨w.heap.size, 0, none⟩) lt4).trans hc0
  have d1 := (hb5.cell (p := ⟨w.heap.size, 1, none⟩) lt4).trans hc1'
  have d2 := (hb5.cell (p := ⟨w.heap.size, 2, none⟩) lt4).trans hc2'
  have d3 := (hb5.cell (p := ⟨w.heap.size, 3, none⟩) lt4).trans hc3
  have lt5 : w.heap.size < w5.heap.size := Nat.lt_of_lt_of_le lt4 hb5.size
  have B0 := Lib.hid hb05
  clear hb5 hb05 hc0 hc1' hc2' hc3 hd0 hd1 hd2 hd3
  go_wp2_with fail
  go_region_held3 (fun w' => w'.cell? ⟨w.heap.size, 0, none⟩ = some (.string s) ∧ w'.cell? ⟨w.heap.size, 1, none⟩ = some (.int .i64 f) ∧ w'.cell? ⟨w.heap.size, 2, none⟩ = some (.slice a1 n1 c1) ∧ w'.cell? ⟨w.heap.size, 3, none⟩ = some (.slice a2 n2 c2) ∧ Below w5.heap.size w5 w')
    (first | exact ⟨d0, d1, d2, d3, (Below.refl _ _).drew⟩ | exact keep4 (by assumption) (by assumption) (by omega))
    (first | (go_at_call 40; refine (observed_Check _ _ _ _ _ _ _ _ _ ms ss hs f1 f2 ?_ ?_).mono ?_; (exact H1.out.far B0.out (last4 (by assumption))); (exact H2.out.far B0.out (last4 (by assumption))); rintro e w' ⟨rfl, hb⟩) | (go_at_call 41; refine (ref_TableError _ _ _ _ _ _ _ _ _ ms ss hs f1 f2 ?_ ?_).mono ?_; (exact H1.out.far B0.out (last4 (by assumption))); (exact H2.out.far B0.out (last4 (by assumption))); rintro e w' ⟨rfl, hb⟩))
  have hk2 := last4 (show _ ∧ _ ∧ _ ∧ _ ∧ Below w5.heap.size w5 w' from by assumption)
  have HK := Lib.hid hk2; clear hk2
  go_wp2_with fail
  go_ret
  exact ⟨rfl, B0.out.trans (HK.out.mono B0.out.size)⟩
theorem walk {H : Type} {enc : TypeId × Value → H} {v0 : Value} {d0 : DataW H} {p0 : List MemPlace} {base : Nat} (W : World)
    (o0 : Value.okWide Try.prog W .any base 58 v0) (h0 : DataW.Trod enc Try.prog W 0 (fun _ => true) true 58 v0 d0 p0) :
    Calls Try.prog 13 #[v0] W fun e w' => e = .returned (.bool true) ∧ Below W.heap.size W w' := by
  obtain ⟨cs, n, rfl, hl, hf⟩ := open_agg Try.underlying58 (by kernel_rfl) (by kernel_rfl) o0 h0
  match cs, hl with
  | [v0, v1, v2, v3], _ =>
    obtain ⟨_, _, e0, t0⟩ := hf 0 _ rfl
    obtain ⟨_, _, e1, t1⟩ := hf 1 _ rfl
    obtain ⟨_, _, e2, t2⟩ := hf 2 _ rfl
    obtain ⟨_, _, e3, t3⟩ := hf 3 _ rfl
    obtain ⟨s, rfl, hs⟩ := open_str t0
    obtain ⟨x1, rfl, hx1⟩ := open_num t1
    obtain ⟨a1, n1, c1, ms, rfl, k1, m1, h1⟩ := open_Ints t2
    obtain ⟨a2, n2, c2, ss, rfl, k2, m2, h2⟩ := open_Ints t3
    simp at e0 e1 e2 e3
    subst e0 e1 e2 e3
    exact core W s x1 a1 a2 n1 c1 n2 c2 ms ss hs hx1.1 hx1.2 h1 h2
end Go.Proofs.Ytofmjjonobhfgaa.observedChecksLaw
