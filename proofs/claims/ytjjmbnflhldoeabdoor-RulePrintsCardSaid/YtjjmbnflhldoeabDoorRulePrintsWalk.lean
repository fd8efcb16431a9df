/- RulePrints: the Go text returns true at every input, and writes nothing that was there. -/
import Derived.Test.YtjjmbnflhldoeabDoorRows
import Derived.Test.YtjjmbnflhldoeabDoorRuls2
import Derived.Test.YtjjmbnflhldoeabDoorTree5
import Derived.Test.YtjjmbnflhldoeabDoorTreeOpen
import Derived.Test.YtjjmbnflhldoeabDoorLaidS
namespace Go.Proofs.YtjjmbnflhldoeabDoor.rulePrintsLaw
set_option linter.unusedVariables false
set_option maxRecDepth 100000
open Go.RowKit Go.ChangeShapes Go.WideShapes Go.Shelf Num

theorem itoa_1 (n : Nat) (h : n < 10) : Lib.itoa n = [UInt8.ofNat (48 + n)] := by rw [itoa_nat, dd_one n h]
theorem itoa_2 (n : Nat) (h : ¬ n < 10) (h2 : n / 10 < 10) : Lib.itoa n = [UInt8.ofNat (48 + n / 10), UInt8.ofNat (48 + n % 10)] := by rw [itoa_nat, dd_snoc n h, dd_one _ h2]; rfl
theorem litL : rulL [115, 109, 97, 108, 108] 1 8 (.node 10 0 smallKids) smallMonths 2 = [99, 97, 108, 101, 110, 100, 97, 114, 32, 115, 109, 97, 108, 108, 10, 101, 112, 111, 99, 104, 32, 49, 10, 99, 121, 99, 108, 101, 32, 56, 10, 108, 101, 97, 112, 32, 121, 32, 37, 32, 52, 32, 61, 32, 48, 10, 109, 111, 110, 116, 104, 32, 111, 110, 101, 32, 51, 49, 10, 109, 111, 110, 116, 104, 32, 116, 119, 111, 32, 50, 56, 32, 50, 57, 10] := by
  have i0 : Lib.itoa 0 = [48] := itoa_1 0 (by omega)
  have i1 : Lib.itoa 1 = [49] := itoa_1 1 (by omega)
  have i4 : Lib.itoa 4 = [52] := itoa_1 4 (by omega)
  have i8 : Lib.itoa 8 = [56] := itoa_1 8 (by omega)
  have i31 : Lib.itoa 31 = [51, 49] := itoa_2 31 (by omega) (by omega)
  have i28 : Lib.itoa 28 = [50, 56] := itoa_2 28 (by omega) (by omega)
  have i29 : Lib.itoa 29 = [50, 57] := itoa_2 29 (by omega) (by omega)
  have hb : bodyT (.node 10 0 smallKids) = [121, 32, 37, 32, 52, 32, 61, 32, 48] := by
    unfold smallKids
    rw [bodyT_2, bodyT_2, bodyT_0, bodyT_0, bodyT_0]
    rw [if_neg (show ¬ (2 : Int) = 1 by decide), if_pos (show (1 : Int) = 1 from rfl), if_pos (show (1 : Int) = 1 from rfl), i4, i0]
    decide
  unfold rulL headL
  rw [i1, i8, hb]
  simp only [smallMonths, List.take_succ_cons, List.take_zero, List.flatMap_cons, List.flatMap_nil, mL]
  rw [i31, i28, i29]
  decide
theorem litP : rprintOut [115, 109, 97, 108, 108] 1 8 (.node 10 0 smallKids) smallMonths = .tuple #[.string ⟨#[99, 97, 108, 101, 110, 100, 97, 114, 32, 115, 109, 97, 108, 108, 10, 101, 112, 111, 99, 104, 32, 49, 10, 99, 121, 99, 108, 101, 32, 56, 10, 108, 101, 97, 112, 32, 121, 32, 37, 32, 52, 32, 61, 32, 48, 10, 109, 111, 110, 116, 104, 32, 111, 110, 101, 32, 51, 49, 10, 109, 111, 110, 116, 104, 32, 116, 119, 111, 32, 50, 56, 32, 50, 57, 10]⟩, .int .i64 0] := by
  unfold rprintOut
  rw [if_pos small_ok]
  unfold rulS
  rw [show smallMonths.length = 2 from rfl, litL]
set_option maxHeartbeats 4000000 in
theorem core (w : World) (sl : List UInt8) (f c k m : Int) (ks : List Tree) (a1 a2 : Option Addr) (n1 c1 n2 c2 : Nat) (ms : List Mon) (hs : (⟨sl.toArray⟩ : ByteArray).size ≤ 9223372036854775807) (hf : I64 f) (hcc : I64 c) (k1 : n1 ≤ c1) (m1 : c1 ≤ 9223372036854775807) (k2 : n2 ≤ c2)
    (h1 : SubAt w w.heap.size (.node k m ks) a1 n1) (h2 : Months w w.heap.size a2 n2 ms) (ht : Pow w) (hl : Lvl w) (hg : Sgn w) :
    Calls Tryd.prog 4 #[.agg #[.string ⟨sl.toArray⟩, .int .i64 f, .int .i64 c, .int .i64 k, .int .i64 m, .slice a1 n1 c1, .slice a2 n2 c2]] w fun e w' => e = .returned (.bool true) ∧ Below w.heap.size w w' := by
  have H1 := Lib.hid h1; have H2 := Lib.hid h2; clear h1 h2
  have HT := Lib.hid ht; have HV := Lib.hid hl; have HG := Lib.hid hg; clear ht hl hg
  go_enter Tryd.func4, Tryd.ntmps4
  go_wp2_with fail
  refine (law_small _).mono ?_
  rintro e w1 ⟨rfl, at1, at2, at3, hb⟩
  have O1 := Lib.hid ((One.new w (.cells #[.string ⟨sl.toArray⟩, .int .i64 f, .int .i64 c, .int .i64 k, .int .i64 m, .slice a1 n1 c1, .slice a2 n2 c2] 36)).step hb)
  simp only [World.size_alloc] at at1 at2 at3
  have t1 := small_tree at1.lt at2.lt at1 at2
  have g1 := small_months at3
  have T1 := Lib.hid t1; have G1 := Lib.hid g1
  clear t1 g1 at1 at2 at3 hb
  go_wp2_with fail
  refine (rule_Print _ [115, 109, 97, 108, 108] 1 8 10 0 smallKids _ _ 2 2 2 2 smallMonths (by decide) (by unfold I64; omega) (by unfold I64; omega) (by omega) (by omega) (by omega) T1.out G1.out (HT.out.below O1.out.2) (HV.out.below O1.out.2) (HG.out.below O1.out.2)).mono ?_
  rw [litP]
  rintro e w2 ⟨rfl, hb⟩
  have o2 := O1.out.step hb
  have x0 : w2.cell? ⟨w.heap.size, 0, none⟩ = some (.string ⟨sl.toArray⟩) := o2.1.cell 0
  have x1 : w2.cell? ⟨w.heap.size, 1, none⟩ = some (.int .i64 f) := o2.1.cell 1
  have x2 : w2.cell? ⟨w.heap.size, 2, none⟩ = some (.int .i64 c) := o2.1.cell 2
  have x3 : w2.cell? ⟨w.heap.size, 3, none⟩ = some (.int .i64 k) := o2.1.cell 3
  have x4 : w2.cell? ⟨w.heap.size, 4, none⟩ = some (.int .i64 m) := o2.1.cell 4
  have x5 : w2.cell? ⟨w.heap.size, 5, none⟩ = some (.slice a1 n1 c1) := o2.1.cell 5
  have x6 : w2.cell? ⟨w.heap.size, 6, none⟩ = some (.slice a2 n2 c2) := o2.1.cell 6
  have O2 := Lib.hid o2; clear hb o2 O1 T1 G1
  go_wp2_with fail
  refine (rule_Print _ sl f c k m ks a1 a2 n1 c1 n2 c2 ms hs hf hcc k1 m1 k2 (H1.out.then_ O2.out.2) ((H2.out.below O2.out.2 (Nat.le_refl _)).more O2.out.2.size) (HT.out.below O2.out.2) (HV.out.below O2.out.2) (HG.out.below O2.out.2)).mono ?_
  by_cases hz : ruleErr ⟨sl.toArray⟩ f c (.node k m ks) ms = 0
  · rw [show rprintOut sl f c (.node k m ks) ms = .tuple #[.string (rulS sl f c (.node k m ks) ms), .int .i64 0] by unfold rprintOut; rw [if_pos hz]]
    rintro e w3 ⟨rfl, hb⟩
    have o3 := O2.out.step hb
    clear x0 x1 x2 x3 x4 x5 x6
    have x0 : w3.cell? ⟨w.heap.size, 0, none⟩ = some (.string ⟨sl.toArray⟩) := o3.1.cell 0
    have x1 : w3.cell? ⟨w.heap.size, 1, none⟩ = some (.int .i64 f) := o3.1.cell 1
    have x2 : w3.cell? ⟨w.heap.size, 2, none⟩ = some (.int .i64 c) := o3.1.cell 2
    have x3 : w3.cell? ⟨w.heap.size, 3, none⟩ = some (.int .i64 k) := o3.1.cell 3
    have x4 : w3.cell? ⟨w.heap.size, 4, none⟩ = some (.int .i64 m) := o3.1.cell 4
    have x5 : w3.cell? ⟨w.heap.size, 5, none⟩ = some (.slice a1 n1 c1) := o3.1.cell 5
    have x6 : w3.cell? ⟨w.heap.size, 6, none⟩ = some (.slice a2 n2 c2) := o3.1.cell 6
    have O3 := Lib.hid o3; clear hb o3 O2
    have HZ := Lib.hid hz; clear hz
    go_wp2_with fail
    refine (ref_RuleError _ _ f c k m ks a1 a2 n1 c1 n2 c2 ms hs k1 m1 k2 (H1.out.then_ O3.out.2) ((H2.out.below O3.out.2 (Nat.le_refl _)).more O3.out.2.size)).mono ?_
    rw [HZ.out]
    rintro e w4 ⟨rfl, hb⟩
    have o4 := O3.out.step hb
    clear x0 x1 x2 x3 x4 x5 x6
    have x0 : w4.cell? ⟨w.heap.size, 0, none⟩ = some (.string ⟨sl.toArray⟩) := o4.1.cell 0
    have x1 : w4.cell? ⟨w.heap.size, 1, none⟩ = some (.int .i64 f) := o4.1.cell 1
    have x2 : w4.cell? ⟨w.heap.size, 2, none⟩ = some (.int .i64 c) := o4.1.cell 2
    have x3 : w4.cell? ⟨w.heap.size, 3, none⟩ = some (.int .i64 k) := o4.1.cell 3
    have x4 : w4.cell? ⟨w.heap.size, 4, none⟩ = some (.int .i64 m) := o4.1.cell 4
    have x5 : w4.cell? ⟨w.heap.size, 5, none⟩ = some (.slice a1 n1 c1) := o4.1.cell 5
    have x6 : w4.cell? ⟨w.heap.size, 6, none⟩ = some (.slice a2 n2 c2) := o4.1.cell 6
    have O4 := Lib.hid o4; clear hb o4 O3
    go_wp2_with fail
    refine (ref_RuleText _ sl f c k m ks a1 a2 n1 c1 n2 c2 ms hf hcc k1 m1 (H1.out.then_ O4.out.2) ((H2.out.below O4.out.2 (Nat.le_refl _)).more O4.out.2.size) (HT.out.below O4.out.2) HZ.out).mono ?_
    rintro e w5 ⟨rfl, hb⟩
    have O5 := Lib.hid (O4.out.step hb); clear hb O4 x0 x1 x2 x3 x4 x5 x6
    go_wp2_with fail
    go_ret
    exact ⟨ret_bool (by simp), O5.out.2⟩
  · rw [show rprintOut sl f c (.node k m ks) ms = .tuple #[.string ⟨#[]⟩, .int .i64 (ruleErr ⟨sl.toArray⟩ f c (.node k m ks) ms)] by unfold rprintOut; rw [if_neg hz]]
    obtain ⟨E, hE⟩ : ∃ E, E = ruleErr ⟨sl.toArray⟩ f c (.node k m ks) ms := ⟨_, rfl⟩
    have hz' : (E != 0) = true := by rw [hE]; simpa using hz
    rw [← hE]
    have HE := Lib.hid hE; clear hE hz
    rintro e w3 ⟨rfl, hb⟩
    have o3 := O2.out.step hb
    clear x0 x1 x2 x3 x4 x5 x6
    have x0 : w3.cell? ⟨w.heap.size, 0, none⟩ = some (.string ⟨sl.toArray⟩) := o3.1.cell 0
    have x1 : w3.cell? ⟨w.heap.size, 1, none⟩ = some (.int .i64 f) := o3.1.cell 1
    have x2 : w3.cell? ⟨w.heap.size, 2, none⟩ = some (.int .i64 c) := o3.1.cell 2
    have x3 : w3.cell? ⟨w.heap.size, 3, none⟩ = some (.int .i64 k) := o3.1.cell 3
    have x4 : w3.cell? ⟨w.heap.size, 4, none⟩ = some (.int .i64 m) := o3.1.cell 4
    have x5 : w3.cell? ⟨w.heap.size, 5, none⟩ = some (.slice a1 n1 c1) := o3.1.cell 5
    have x6 : w3.cell? ⟨w.heap.size, 6, none⟩ = some (.slice a2 n2 c2) := o3.1.cell 6
    have O3 := Lib.hid o3; clear hb o3 O2
    go_wp2_with fail
    refine (ref_RuleError _ _ f c k m ks a1 a2 n1 c1 n2 c2 ms hs k1 m1 k2 (H1.out.then_ O3.out.2) ((H2.out.below O3.out.2 (Nat.le_refl _)).more O3.out.2.size)).mono ?_
    rw [← HE.out]
    rintro e w4 ⟨rfl, hb⟩
    have O4 := Lib.hid (O3.out.step hb); clear hb O3 x0 x1 x2 x3 x4 x5 x6
    go_wp2_with fail
    go_ret
    exact ⟨ret_bool (by simp), O4.out.2⟩
theorem laid_lvl {W : World} {rest : List (String × DataW Unit)} {d : DataW Unit} (hd : d = Lib.tabData .i64 lvlL) (h : laidMet Tryd.prog (("ephemeris/rule.levels", d) :: rest) W) : Lvl W := by
  subst hd
  exact Lib.tabIs_of_head (g := 0) (t := 87) (e := 3) (n := 14) (by kernel_rfl) (by kernel_rfl) Tryd.underlying87 Tryd.underlying3 (by kernel_rfl) (by kernel_rfl) h
theorem laid_sgn {W : World} {rest : List (String × DataW Unit)} {d : DataW Unit} (hd : d = strData sgnL) (h : laidMet Tryd.prog (("ephemeris/rule.signs", d) :: rest) W) : Sgn W := by
  subst hd
  exact laid_strs (g := 1) (t := 88) (e := 9) (n := 14) (by kernel_rfl) (by kernel_rfl) Tryd.underlying88 Tryd.underlying9 (by kernel_rfl) (by kernel_rfl) h
theorem walk {H : Type} {enc : TypeId × Value → H} {v0 : Value} {d0 : DataW H} {p0 : List MemPlace} {base : Nat} (W : World)
    (o0 : Value.okWide Tryd.prog W .any base 36 v0) (h0 : DataW.Trod enc Tryd.prog W 0 (fun _ => true) true 36 v0 d0 p0) (hL : laidMet Tryd.prog Rows.rulePrintsRow.laid W) :
    Calls Tryd.prog 4 #[v0] W fun e w' => e = .returned (.bool true) ∧ Below W.heap.size W w' := by
  obtain ⟨s, f, c, k, m, ks, a1, a2, n1, c1, n2, c2, ms, rfl, hs, hf, hc, k1, m1, k2, m2, t1, g1⟩ := open_RuleTree o0 h0
  obtain ⟨sl, rfl⟩ : ∃ l, s = ⟨l.toArray⟩ := ⟨s.data.toList, (str_eta s).symm⟩
  exact core W sl f c k m ks a1 a2 n1 c1 n2 c2 ms hs hf hc k1 m1 k2 t1 g1 (laid_pow pow_data.symm hL.tail.tail) (laid_lvl rfl hL.tail.tail.tail) (laid_sgn rfl hL.tail.tail.tail.tail)
end Go.Proofs.YtjjmbnflhldoeabDoor.rulePrintsLaw
