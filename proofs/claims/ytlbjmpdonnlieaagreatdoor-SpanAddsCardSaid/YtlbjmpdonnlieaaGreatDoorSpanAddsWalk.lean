import Derived.Test.YtlbjmpdonnlieaaGreatDoorRows
import Derived.Test.YtlbjmpdonnlieaaGreatDoorMgSb
import Derived.Test.YtlbjmpdonnlieaaGreatDoorMgI
namespace Go.Proofs.YtlbjmpdonnlieaaGreatDoor.spanAddsLaw
set_option linter.unusedVariables false
set_option linter.unusedSimpArgs false
set_option maxRecDepth 100000
open Go.RowKit Go.ChangeShapes Go.WideShapes Go.Shelf
theorem open_Length {H : Type} {enc : TypeId × Value → H} {v : Value} {d : DataW H} {p : List MemPlace} {base : Nat} {W : World}
    (o : Value.okWide Tryz.prog W .any base 32 v) (h : DataW.Trod enc Tryz.prog W 0 (fun _ => true) true 32 v d p) : ∃ x : Nat → Int, v = .agg (lenV x) ∧ ∀ j, I64 (x j) := by
  obtain ⟨cs, n, rfl, hl, hf⟩ := open_agg Tryz.underlying32 (by kernel_rfl) (by kernel_rfl) o h
  match cs, hl with
  | [v0, v1, v2, v3], _ =>
    obtain ⟨_, _, e0, t0⟩ := hf 0 _ rfl
    obtain ⟨_, _, e1, t1⟩ := hf 1 _ rfl
    obtain ⟨_, _, e2, t2⟩ := hf 2 _ rfl
    obtain ⟨_, _, e3, t3⟩ := hf 3 _ rfl
    obtain ⟨x0, rfl, h0⟩ := open_num t0
    obtain ⟨x1, rfl, h1⟩ := open_num t1
    obtain ⟨x2, rfl, h2⟩ := open_num t2
    obtain ⟨x3, rfl, h3⟩ := open_num t3
    simp at e0 e1 e2 e3
    subst e0 e1 e2 e3
    refine ⟨fun j => if j = 0 then x0 else if j = 1 then x1 else if j = 2 then x2 else x3, rfl, fun j => ?_⟩
    show I64 (if j = 0 then x0 else if j = 1 then x1 else if j = 2 then x2 else x3)
    split
    · exact h0
    split
    · exact h1
    split
    · exact h2
    · exact h3
def turnX (x : Nat → Int) (i : Nat) : Int := if i = 1 ∧ inB (-10000) 10000 (x 1) = true then (x 1).tmod 100 else x i
theorem lit_ok : okLen litX = true := by decide
theorem len_set {W : World} {b : Nat} (x : Nat → Int) (h : At W b (lenO x)) (hb : inB (-10000) 10000 (x 1) = true) : At (W.setCell ⟨b, 1, none⟩ (.int .i64 ((x 1).tmod 100))) b (lenO (turnX x)) := by
  have h1 := h.store 1 (.int .i64 ((x 1).tmod 100))
  have e : lenO (turnX x) = .cells #[.int .i64 (x 0), .int .i64 ((x 1).tmod 100), .int .i64 (x 2), .int .i64 (x 3)] 32 := by
    unfold lenO lenV turnX
    simp [hb]
  rw [e]; exact h1
theorem turn_no {x : Nat → Int} (hb : inB (-10000) 10000 (x 1) = false) : lenO (turnX x) = lenO x := by
  unfold lenO lenV turnX
  simp [hb]
set_option maxHeartbeats 8000000 in
theorem core (w : World) (m : Int) (hm : w.cell? ⟨1, 0, none⟩ = some (.int .i64 m)) (hlv : Lvl w) (hsg : Sgn w) (s : ByteArray) (t : Int) (ht1 : -9223372036854775808 ≤ t) (ht2 : t ≤ 9223372036854775807) (x : Nat → Int) (hx : ∀ j, I64 (x j)) :
    Calls Tryz.prog 5 #[.string s, .int .i64 t, .agg (lenV x)] w fun e w' => e = .returned (.bool true) ∧ Below w.heap.size w w' := by
  have hgm := World.block_lt_of_cell? _ _ hm
  obtain ⟨rg, hrg, hag⟩ := greg_add
  have CL := Lib.hid (fun (W : World) (hW : Below w.heap.size w W) => span_Add_some gregS hrg 2678400000 litX lit_ok (5097600000, 0) hag W m ((hW.cell (p := ⟨1, 0, none⟩) hgm).trans hm) (hlv.below hW) (hsg.below hW))
  clear hrg hag
  obtain ⟨y, hy⟩ : ∃ y, y = turnX x := ⟨_, rfl⟩
  have hx1 := hx 1
  unfold I64 at hx1
  have HX1 := Lib.hid hx1
  obtain ⟨h11, h12⟩ := hx1
  have CN := Lib.hid (fun (W : World) (hW : Below w.heap.size w W) => show Calls Tryz.prog 17 #[.string s] W (NamedPost s.data.toList W) from by
    have h := ref_Named s.data.toList W m ((hW.cell (p := ⟨1, 0, none⟩) hgm).trans hm)
    rw [str_back] at h; exact h)
  have CO := Lib.hid (fun W => ref_LengthOK y W)
  have CB := Lib.hid (fun (h : okLen y = false) (W : World) => span_Add_bad s t y h W)
  have CNo := Lib.hid (fun (hro : rowOf s.data.toList = none) (h : okLen y = true) (W : World) (hW : Below w.heap.size w W) => span_Add_none s hro t y h W m ((hW.cell (p := ⟨1, 0, none⟩) hgm).trans hm) (hlv.below hW) (hsg.below hW))
  have CSo := Lib.hid (fun (r : List UInt8) (hro : rowOf s.data.toList = some r) (h : okLen y = true) (p : Int × Int) (hA : AddC r t y p) (W : World) (hW : Below w.heap.size w W) => span_Add_some s hro t y h p hA W m ((hW.cell (p := ⟨1, 0, none⟩) hgm).trans hm) (hlv.below hW) (hsg.below hW))
  have HT := Lib.hid (show ∀ r, r ∈ rowsL → okLen y = true → ∃ p, AddC r t y p ∧ AddY r t y p from fun r hr h => add_both hr t ht1 ht2 y h)
  have HY := Lib.hid hy
  clear hm hlv hsg hgm hy
  have o0 := One.new w (lenO x)
  go_enter Tryz.func5, Tryz.ntmps5
  go_upto_region 1 with fail
  generalize World.alloc w _ = W0 at o0 ⊢
  have hq0 : Below w.heap.size w W0 := o0.2
  have o1 := o0.1
  clear o0
  go_upto_region 4 with (go_at_call 14; refine (CL.out _ hq0).mono ?_; rintro e w1 ⟨rfl, hb⟩)
  have hq1 := below_then hq0 hb
  replace o1 := o1.then_ hb
  clear hb hq0 CL
  have O1 := Lib.hid o1; have Q1 := Lib.hid hq1
  have d0 := o1.cell 0; have d1 := o1.cell 1; have d2 := o1.cell 2; have d3 := o1.cell 3; simp at d0 d1 d2 d3
  have hfz := o1.frozen 1
  have hlt := o1.lt
  clear o1 hq1
  obtain ⟨b1, hb1⟩ : ∃ b, b = inB (-10000) 10000 (x 1) := ⟨_, rfl⟩
  have CI := Lib.hid (show ∀ W : World, Calls Tryz.prog 15 #[.int .i64 (x 1), .int .i64 (-10000), .int .i64 10000] W fun e w' => e = .returned (.bool b1) ∧ W = w' from fun W => by rw [hb1]; exact ref_In (x 1) (-10000) 10000 W)
  have HB1 := Lib.hid hb1; clear hb1
  go_upto_region 4 with fail
  go_cut [28] from 26 (fun u wx => u = .bool b1 ∧ w1 = wx)
  case first =>
    go_wp2_with (go_at_call 15; refine (CI.out _).mono ?_; rintro e w' ⟨rfl, rfl⟩)
    go_meet
    case rel => exact ⟨rfl, rfl⟩
  case rest =>
  obtain ⟨rfl, rfl⟩ := hcut
  go_upto_if 28 with fail
  go_cut [28] from 29 (fun _ wx => At wx w.heap.size (lenO y) ∧ Below w.heap.size w wx)
  case first =>
    cases b1 with
    | false =>
      have he := Lib.hid (show lenO y = lenO x by rw [HY.out]; exact turn_no HB1.out.symm)
      go_wp2_with fail
      go_meet
      case rel => exact ⟨by rw [he.out]; exact O1.out, Q1.out⟩
    | true =>
      have hin := inB_iff.1 HB1.out.symm
      have hw : IntKind.i64.wrap ((x 1).tmod 100) = (x 1).tmod 100 := IntWalk.i64_in _ (by
        have h1 := Int.lt_tmod_of_pos (x 1) (show (0 : Int) < 100 by omega)
        have h2 := Int.tmod_lt_of_pos (x 1) (show (0 : Int) < 100 by omega)
        omega)
      clear hin
      go_wp2_with fail
      go_meet
      case rel => exact ⟨by rw [HY.out]; exact len_set x O1.out HB1.out.symm, below_set Q1.out (by simp) _⟩
  case rest =>
  obtain ⟨o2, q2⟩ := hcut
  clear O1 Q1 HB1 CI d0 d1 d2 d3 hfz hlt HX1 h11 h12 hx HY
  have O2 := Lib.hid o2; have Q2 := Lib.hid q2
  have d0 := o2.cell 0; have d1 := o2.cell 1; have d2 := o2.cell 2; have d3 := o2.cell 3; simp at d0 d1 d2 d3
  clear o2 q2
  cases hok : okLen y with
  | false =>
    have C1 := Lib.hid (CB.out hok)
    rw [hok] at CO
    clear CB CNo CSo HT CN hok
    go_upto_region 7 with (go_at_call 14; refine (C1.out _).mono ?_; rintro e w2 ⟨rfl, hb⟩)
    have o3 := O2.out.then_ hb
    have q3 := below_then Q2.out hb
    clear d0 d1 d2 d3 hb
    have d0 := o3.cell 0; have d1 := o3.cell 1; have d2 := o3.cell 2; have d3 := o3.cell 3; simp at d0 d1 d2 d3
    go_wp2_with (go_at_call 16; refine (CO.out _).mono ?_; rintro e w3 ⟨rfl, hb⟩)
    go_ret
    exact ⟨rfl, below_then q3 hb⟩
  | true =>
  rw [hok] at CO
  cases hro : rowOf s.data.toList with
  | none =>
    have C1 := Lib.hid (CNo.out hro hok)
    have hn := CN.out
    unfold NamedPost at hn
    rw [hro] at hn
    have C2 := Lib.hid (fun (W : World) (hW : Below w.heap.size w W) => show Calls Tryz.prog 17 #[.string s] W (fun e w' => e = .returned (.tuple #[.agg zYv, .bool false]) ∧ Below W.heap.size W w') from hn W hW)
    clear CB CNo CSo HT CN hok hro hn
    go_upto_region 7 with (go_at_call 14; refine (C1.out _ Q2.out).mono ?_; rintro e w2 ⟨rfl, hb⟩)
    have o3 := O2.out.then_ hb
    have q3 := below_then Q2.out hb
    clear d0 d1 d2 d3 hb
    have d0 := o3.cell 0; have d1 := o3.cell 1; have d2 := o3.cell 2; have d3 := o3.cell 3; simp at d0 d1 d2 d3
    go_upto_region 9 with (go_at_call 16; refine (CO.out _).mono ?_; rintro e w3 ⟨rfl, hb⟩)
    have q4 := below_then q3 hb
    clear d0 d1 d2 d3 hb o3
    go_wp2_with (go_at_call 17; refine (C2.out _ q4).mono ?_; rintro e w4 ⟨rfl, hb⟩)
    go_ret
    exact ⟨rfl, below_new (below_then q4 hb) _⟩
  | some r =>
    obtain ⟨p, hA, hY⟩ := HT.out r (List.mem_of_find?_eq_some hro) hok
    have C1 := Lib.hid (CSo.out r hro hok p hA)
    have hn := CN.out
    unfold NamedPost at hn
    rw [hro] at hn
    have C2 := Lib.hid (fun (W : World) (hW : Below w.heap.size w W) => show Calls Tryz.prog 17 #[.string s] W (fun e w' => ∃ v, e = .returned (.tuple #[v, .bool true]) ∧ YearsRet r W v w') from hn W hW)
    unfold AddY at hY
    have HAY := Lib.hid hY
    obtain ⟨p1, p2⟩ := p
    clear CB CNo CSo HT CN hok hro hn hA hY
    go_upto_region 7 with (go_at_call 14; refine (C1.out _ Q2.out).mono ?_; rintro e w2 ⟨rfl, hb⟩)
    have o3 := O2.out.then_ hb
    have q3 := below_then Q2.out hb
    clear d0 d1 d2 d3 hb
    have d0 := o3.cell 0; have d1 := o3.cell 1; have d2 := o3.cell 2; have d3 := o3.cell 3; simp at d0 d1 d2 d3
    go_upto_region 9 with (go_at_call 16; refine (CO.out _).mono ?_; rintro e w3 ⟨rfl, hb⟩)
    have q4 := below_then q3 hb
    have o4 := o3.then_ hb
    clear d0 d1 d2 d3 hb o3
    go_upto_region 10 with (go_at_call 17; refine (C2.out _ q4).mono ?_; rintro e w4 ⟨v, rfl, a1, n1, c1, a2, n2, c2, g, rfl, j1, j2, hcal, hmk, hb⟩)
    have bn := below_new (Below.refl w4.heap.size w4) (.cells (rowYears r g a1 a2 n1 c1 n2 c2) 43)
    have o5 := At.new w4 (.cells (rowYears r g a1 a2 n1 c1 n2 c2) 43)
    have q5 := below_then (below_then q4 hb) bn
    replace o4 := (o4.then_ hb).then_ bn
    replace hcal := hcal.then_ bn
    replace hmk := hmk.then_ bn
    clear hb q4 bn
    generalize World.alloc w4 _ = W5 at o4 o5 q5 hcal hmk ⊢
    have HC := Lib.hid (HAY.out W5 g a1 a2 n1 c1 n2 c2 hmk hcal)
    clear HAY hcal hmk
    have y0 := o5.cell 0; have y1 := o5.cell 1; have y2 := o5.cell 2; have y3 := o5.cell 3; have y4 := o5.cell 4; have y5 := o5.cell 5; have y6 := o5.cell 6; have y7 := o5.cell 7; have y8 := o5.cell 8; simp at y0 y1 y2 y3 y4 y5 y6 y7 y8
    have d0 := o4.cell 0; have d1 := o4.cell 1; have d2 := o4.cell 2; have d3 := o4.cell 3; simp at d0 d1 d2 d3
    clear o4 o5
    go_wp2_with (go_at_call 18; refine HC.out.mono ?_; rintro e w6 ⟨rfl, hb⟩)
    go_ret
    exact ⟨ret_bool (by simp), below_then q5 hb⟩
theorem walk {H : Type} {enc : TypeId × Value → H} {v0 v1 v2 : Value} {d0 d1 d2 : DataW H} {p0 p1 p2 : List MemPlace} {base : Nat} (W : World)
    (o0 : Value.okWide Tryz.prog W .any base 9 v0) (h0 : DataW.Trod enc Tryz.prog W 0 (fun _ => true) true 9 v0 d0 p0)
    (hsz : ∀ bytes, d0 = .lit (.string bytes) → bytes.length ≤ reachBytes)
    (o1 : Value.okWide Tryz.prog W .any base 3 v1) (h1 : DataW.Trod enc Tryz.prog W 0 (fun _ => true) true 3 v1 d1 p1)
    (o2 : Value.okWide Tryz.prog W .any base 32 v2) (h2 : DataW.Trod enc Tryz.prog W 0 (fun _ => true) true 32 v2 d2 p2)
    (hL : laidMet Tryz.prog Rows.spanAddsRow.laid W) (hsh : W.ShapedOpen Tryz.prog) :
    Calls Tryz.prog 5 #[v0, v1, v2] W fun e w' => e = .returned (.bool true) ∧ Below W.heap.size W w' := by
  obtain ⟨s, rfl, rfl, rfl, hs⟩ := Go.ChangeMaps.open_string Tryz.underlying9 o0 h0
  obtain ⟨t, rfl, rfl, rfl, ht⟩ := open_int Tryz.underlying3 o1 h1
  obtain ⟨x, rfl, hx⟩ := open_Length o2 h2
  obtain ⟨m, hm⟩ : ∃ m : Int, W.cell? ⟨1, 0, none⟩ = some (.int .i64 m) := Tryz.laysLaysMn146.s1_3 W hsh
  have hb := bounds_i64 ht
  exact core W m hm (cat_lvl rfl hL.tail.tail.tail.tail.tail.tail) (cat_sgn rfl hL.tail.tail.tail.tail.tail.tail.tail) s t hb.1 hb.2 x hx
end Go.Proofs.YtlbjmpdonnlieaaGreatDoor.spanAddsLaw
