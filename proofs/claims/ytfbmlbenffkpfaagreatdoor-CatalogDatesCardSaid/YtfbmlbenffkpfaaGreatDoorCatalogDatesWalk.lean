import Derived.Test.YtfbmlbenffkpfaaGreatDoorRows
import Derived.Test.YtfbmlbenffkpfaaGreatDoorMgX
import Derived.Test.YtfbmlbenffkpfaaGreatDoorMgZ
import Derived.Test.YtfbmlbenffkpfaaGreatDoorMgI
set_option linter.unusedSimpArgs false
namespace Go.Proofs.YtfbmlbenffkpfaaGreatDoor.catalogDatesLaw
set_option linter.unusedVariables false
set_option maxRecDepth 100000
open Go.RowKit Go.ChangeShapes Go.WideShapes Go.Shelf
abbrev julL : List UInt8 := [106, 117, 108, 105, 97, 110]
theorem jul_b : fromB julL 1 1 0 2 = true := by decide +kernel
theorem jul_from : ∃ r, rowOf julL = some r ∧ FromC r 1 1 1 3 0 := from_row jul_b (by omega) (by omega) (by omega) (by omega)
abbrev yrA (row : List UInt8) (a1 a2 : Option Addr) (n1 c1 n2 c2 g : Nat) : Value := .agg #[.string (tkS (ruleL row).nm), .int .i64 (ruleL row).ep, .int .i64 (calN row : Int), .slice a1 n1 c1, .slice a2 n2 c2, .slice (some ⟨g, 0, none⟩) (calN row) (calN row), .int .i64 (shortOf (msL row)), .int .i64 (longOf (msL row)), .int .i64 (daysTo (shortOf (msL row)) (longOf (msL row)) (lsL row) (calN row : Int))]
abbrev yrO (row : List UInt8) (a1 a2 : Option Addr) (n1 c1 n2 c2 g : Nat) : Obj := .cells #[.string (tkS (ruleL row).nm), .int .i64 (ruleL row).ep, .int .i64 (calN row : Int), .slice a1 n1 c1, .slice a2 n2 c2, .slice (some ⟨g, 0, none⟩) (calN row) (calN row), .int .i64 (shortOf (msL row)), .int .i64 (longOf (msL row)), .int .i64 (daysTo (shortOf (msL row)) (longOf (msL row)) (lsL row) (calN row : Int))] 40
def FromR (row : List UInt8) (x a b d ee : Int) : Prop := ∀ (w : World) (g : Nat) (a1 a2 : Option Addr) (n1 c1 n2 c2 : Nat), MarksAt w g (calN row) (lsL row) → CalAt w a1 a2 n1 n2 (msL row) (lsL row) → Calls Tryz.prog 23 #[yrA row a1 a2 n1 c1 n2 c2 g, .int .i64 x] w fun e w' => e = .returned (.tuple #[.agg #[.int .i64 a, .int .i64 b, .int .i64 d], .int .i64 ee]) ∧ Below w.heap.size w w'
def ToR (row : List UInt8) (y m d n ee : Int) : Prop := ∀ (w : World) (g : Nat) (a1 a2 : Option Addr) (n1 c1 n2 c2 : Nat), MarksAt w g (calN row) (lsL row) → CalAt w a1 a2 n1 n2 (msL row) (lsL row) → Calls Tryz.prog 24 #[yrA row a1 a2 n1 c1 n2 c2 g, .agg #[.int .i64 y, .int .i64 m, .int .i64 d]] w fun e w' => e = .returned (.tuple #[.int .i64 n, .int .i64 ee]) ∧ Below w.heap.size w w'
set_option maxHeartbeats 4000000 in
theorem core (w : World) (nl : List UInt8) (x y mo dd : Int) (m : Int) (hm : w.cell? ⟨2, 0, none⟩ = some (.int .i64 m)) (hlv : Lvl w) (hsg : Sgn w) :
    Calls Tryz.prog 5 #[.string ⟨nl.toArray⟩, .int .i64 x, .agg #[.int .i64 y, .int .i64 mo, .int .i64 dd]] w fun e w' => e = .returned (.bool true) ∧ Below w.heap.size w w' := by
  have hgm := World.block_lt_of_cell? _ _ hm
  have CJ := Lib.hid (fun (W : World) (hW : Below w.heap.size w W) => show Calls Tryz.prog 21 #[.string ⟨#[106, 117, 108, 105, 97, 110]⟩, .int .i64 1] W fun e w' => e = .returned (.tuple #[.agg #[.int .i64 1, .int .i64 1, .int .i64 3], .int .i64 0]) ∧ Below W.heap.size W w' from by
    obtain ⟨r, hr, hf⟩ := jul_from
    exact cat_Date_some julL r hr 1 1 1 3 0 hf W m ((hW.cell (p := ⟨2, 0, none⟩) hgm).trans hm) (hlv.below hW) (hsg.below hW))
  have CN := Lib.hid (fun (W : World) (hW : Below w.heap.size w W) => ref_Named nl W m ((hW.cell (p := ⟨2, 0, none⟩) hgm).trans hm))
  obtain ⟨a, b, d, ee, n, eg, HD, HY, HR⟩ : ∃ a b d ee n eg : Int,
      (∀ W, Below w.heap.size w W → Calls Tryz.prog 21 #[.string ⟨nl.toArray⟩, .int .i64 x] W fun e w' => e = .returned (.tuple #[.agg #[.int .i64 a, .int .i64 b, .int .i64 d], .int .i64 ee]) ∧ Below W.heap.size W w') ∧
      (∀ W, Below w.heap.size w W → Calls Tryz.prog 22 #[.string ⟨nl.toArray⟩, .agg #[.int .i64 y, .int .i64 mo, .int .i64 dd]] W fun e w' => e = .returned (.tuple #[.int .i64 n, .int .i64 eg]) ∧ Below W.heap.size W w') ∧
      ((rowOf nl = none ∧ a = 0 ∧ b = 0 ∧ d = 0 ∧ ee = 5 ∧ n = 0 ∧ eg = 5) ∨ ∃ row, rowOf nl = some row ∧ FromR row x a b d ee ∧ ToR row y mo dd n eg) := by
    cases hro : rowOf nl with
    | none => exact ⟨0, 0, 0, 5, 0, 5, fun W hW => cat_Date_none nl hro x W m ((hW.cell (p := ⟨2, 0, none⟩) hgm).trans hm) (hlv.below hW) (hsg.below hW),
        fun W hW => cat_Day_none nl hro y mo dd W m ((hW.cell (p := ⟨2, 0, none⟩) hgm).trans hm) (hlv.below hW) (hsg.below hW), .inl ⟨rfl, rfl, rfl, rfl, rfl, rfl, rfl⟩⟩
    | some row =>
      have hrow : row ∈ rowsL := List.mem_of_find?_eq_some hro
      obtain ⟨a, b, d, ee, f1, f2⟩ := from_both (tkS_le hrow) (row_cal hrow) x
      obtain ⟨n, eg, t1, t2⟩ := to_both (tkS_le hrow) (row_cal hrow) y mo dd
      exact ⟨a, b, d, ee, n, eg, fun W hW => cat_Date_some nl row hro x a b d ee f1 W m ((hW.cell (p := ⟨2, 0, none⟩) hgm).trans hm) (hlv.below hW) (hsg.below hW),
        fun W hW => cat_Day_some nl row hro y mo dd n eg t1 W m ((hW.cell (p := ⟨2, 0, none⟩) hgm).trans hm) (hlv.below hW) (hsg.below hW), .inr ⟨row, rfl, f2, t2⟩⟩
  have HD := Lib.hid HD; have HY := Lib.hid HY; have HR := Lib.hid HR
  have A0 := Lib.hid (At.new w (dateO y mo dd))
  have B0 := Lib.hid (below_new (Below.refl w.heap.size w) (dateO y mo dd))
  clear hm hlv hsg hgm
  go_enter Tryz.func5, Tryz.ntmps5
  go_wp2_with fail
  refine (CJ.out _ B0.out).mono ?_
  rintro e w1 ⟨rfl, hb⟩
  have o1 := At.new w1 (dateO 1 1 3)
  have A1 := Lib.hid ((A0.out.then_ hb).alloc (dateO 1 1 3))
  have B1 := Lib.hid (below_new (below_then B0.out hb) (dateO 1 1 3))
  obtain ⟨T, hT⟩ : ∃ T, T = w1.heap.size := ⟨_, rfl⟩
  rw [← hT] at o1
  clear hb CJ A0 B0
  go_upto_region 2 with fail
  rw [← hT]
  generalize World.alloc w1 _ = W1 at o1 A1 B1 ⊢
  clear hT
  have x0 := o1.cell 0; have x1 := o1.cell 1; have x2 := o1.cell 2; simp at x0 x1 x2
  have hl := o1.lt
  clear o1
  go_wp2_with fail
  clear x0 x1 x2 hl
  refine (HD.out _ B1.out).mono ?_
  rintro e w2 ⟨rfl, hb⟩
  have o2 := At.new w2 (dateO a b d)
  have A2 := Lib.hid ((A1.out.then_ hb).alloc (dateO a b d))
  have B2 := Lib.hid (below_new (below_then B1.out hb) (dateO a b d))
  obtain ⟨T2, hT⟩ : ∃ T, T = w2.heap.size := ⟨_, rfl⟩
  rw [← hT] at o2
  clear hb A1 B1
  go_upto_region 5 with fail
  rw [← hT]
  generalize World.alloc w2 _ = W2 at o2 A2 B2 ⊢
  clear hT
  have a2 := A2.out
  have z0 := a2.cell 0; have z1 := a2.cell 1; have z2 := a2.cell 2; simp at z0 z1 z2
  have hl := a2.lt
  have O2 := Lib.hid o2
  clear a2 o2
  go_wp2_with fail
  clear z0 z1 z2 hl
  refine (HY.out _ B2.out).mono ?_
  rintro e w3 ⟨rfl, hb⟩
  have O3 := Lib.hid (O2.out.then_ hb)
  have A3 := Lib.hid (A2.out.then_ hb)
  have B3 := Lib.hid (below_then B2.out hb)
  clear hb O2 A2 B2
  go_wp2_with fail
  have CX := CN.out w3 B3.out
  unfold NamedPost at CX
  rcases HR.out with ⟨hro, rfl, rfl, rfl, rfl, rfl, rfl⟩ | ⟨row, hro, hfr, htr⟩
  · rw [hro] at CX
    clear CN HR HD HY hro
    refine CX.mono ?_
    rintro e w4 ⟨rfl, hb⟩
    have o4 := (O3.out.then_ hb).alloc zYo
    have B4 := Lib.hid (below_new (below_then B3.out hb) zYo)
    clear hb O3 A3 B3 CX
    go_upto_region 7 with fail
    generalize World.alloc w4 _ = W4 at o4 B4 ⊢
    have x0 := o4.cell 0; have x1 := o4.cell 1; have x2 := o4.cell 2; simp at x0 x1 x2
    have hl := o4.lt
    clear o4
    go_wp2_with fail
    go_ret
    exact ⟨ret_bool (by simp), B4.out⟩
  · rw [hro] at CX
    have FR := Lib.hid hfr; have TR := Lib.hid htr
    clear CN HR HD HY hro hfr htr
    refine CX.mono ?_
    rintro e w4 ⟨v, rfl, p1, q1, r1, p2, q2, r2, g, rfl, k1, k2, hcal, hmk, hb⟩
    have y4 := At.new w4 (yrO row p1 p2 q1 r1 q2 r2 g)
    have O4 := Lib.hid ((O3.out.then_ hb).alloc (yrO row p1 p2 q1 r1 q2 r2 g))
    have A4 := Lib.hid ((A3.out.then_ hb).alloc (yrO row p1 p2 q1 r1 q2 r2 g))
    have B4 := Lib.hid (below_new (below_then B3.out hb) (yrO row p1 p2 q1 r1 q2 r2 g))
    have HC := Lib.hid (hcal.alloc (yrO row p1 p2 q1 r1 q2 r2 g))
    have HM := Lib.hid (hmk.then_ (below_new (Below.refl _ _) (yrO row p1 p2 q1 r1 q2 r2 g)))
    obtain ⟨T4, hT⟩ : ∃ T, T = w4.heap.size := ⟨_, rfl⟩
    rw [← hT] at y4
    clear hb O3 A3 B3 CX hcal hmk k1 k2
    go_upto_region 7 with fail
    rw [← hT]
    generalize World.alloc w4 _ = W4 at y4 O4 A4 B4 HC HM ⊢
    clear hT
    have Y4 := Lib.hid y4
    have x0 := y4.cell 0; have x1 := y4.cell 1; have x2 := y4.cell 2; have x3 := y4.cell 3; have x4 := y4.cell 4; have x5 := y4.cell 5; have x6 := y4.cell 6; have x7 := y4.cell 7; have x8 := y4.cell 8; simp at x0 x1 x2 x3 x4 x5 x6 x7 x8
    have hl := y4.lt
    clear y4
    go_wp2_with fail
    clear x0 x1 x2 x3 x4 x5 x6 x7 x8 hl
    refine (FR.out W4 g p1 p2 q1 r1 q2 r2 HM.out HC.out).mono ?_
    rintro e w5 ⟨rfl, hb⟩
    have o5 := At.new w5 (dateO a b d)
    have Y5 := Lib.hid ((Y4.out.then_ hb).alloc (dateO a b d))
    have O5 := Lib.hid ((O4.out.then_ hb).alloc (dateO a b d))
    have A5 := Lib.hid ((A4.out.then_ hb).alloc (dateO a b d))
    have B5 := Lib.hid (below_new (below_then B4.out hb) (dateO a b d))
    have HC5 := Lib.hid ((HC.out.then_ hb).alloc (dateO a b d))
    have HM5 := Lib.hid ((HM.out.then_ hb).then_ (below_new (Below.refl _ _) (dateO a b d)))
    obtain ⟨T5, hT⟩ : ∃ T, T = w5.heap.size := ⟨_, rfl⟩
    rw [← hT] at o5
    clear hb O4 A4 B4 Y4 HC HM FR
    go_upto_region 10 with fail
    rw [← hT]
    generalize World.alloc w5 _ = W5 at o5 Y5 O5 A5 B5 HC5 HM5 ⊢
    clear hT
    have y5 := Y5.out
    have x0 := y5.cell 0; have x1 := y5.cell 1; have x2 := y5.cell 2; have x3 := y5.cell 3; have x4 := y5.cell 4; have x5 := y5.cell 5; have x6 := y5.cell 6; have x7 := y5.cell 7; have x8 := y5.cell 8; simp at x0 x1 x2 x3 x4 x5 x6 x7 x8
    have hl := y5.lt
    have a5 := A5.out
    have z0 := a5.cell 0; have z1 := a5.cell 1; have z2 := a5.cell 2; simp at z0 z1 z2
    have hl2 := a5.lt
    have o5' := Lib.hid o5
    clear y5 a5 o5
    go_wp2_with fail
    clear x0 x1 x2 x3 x4 x5 x6 x7 x8 hl z0 z1 z2 hl2
    refine (TR.out W5 g p1 p2 q1 r1 q2 r2 HM5.out HC5.out).mono ?_
    rintro e w6 ⟨rfl, hb⟩
    have o6 := O5.out.then_ hb
    have s6 := o5'.out.then_ hb
    have B6 := Lib.hid (below_then B5.out hb)
    clear hb O5 A5 B5 Y5 HC5 HM5 TR o5'
    have x0 := o6.cell 0; have x1 := o6.cell 1; have x2 := o6.cell 2; simp at x0 x1 x2
    have z0 := s6.cell 0; have z1 := s6.cell 1; have z2 := s6.cell 2; simp at z0 z1 z2
    have hl := o6.lt; have hl2 := s6.lt
    clear o6 s6
    go_wp2_with fail
    go_ret
    exact ⟨ret_bool (by simp), B6.out⟩
theorem walk {H : Type} {enc : TypeId × Value → H} {v0 v1 v2 : Value} {d0 d1 d2 : DataW H} {p0 p1 p2 : List MemPlace} {base : Nat} (W : World)
    (o0 : Value.okWide Tryz.prog W .any base 9 v0) (h0 : DataW.Trod enc Tryz.prog W 0 (fun _ => true) true 9 v0 d0 p0)
    (hsz : ∀ bytes, d0 = .lit (.string bytes) → bytes.length ≤ reachBytes)
    (o1 : Value.okWide Tryz.prog W .any base 3 v1) (h1 : DataW.Trod enc Tryz.prog W 0 (fun _ => true) true 3 v1 d1 p1)
    (o2 : Value.okWide Tryz.prog W .any base 45 v2) (h2 : DataW.Trod enc Tryz.prog W 0 (fun _ => true) true 45 v2 d2 p2)
    (hL : laidMet Tryz.prog Rows.catalogDatesRow.laid W) (hsh : W.ShapedOpen Tryz.prog) :
    Calls Tryz.prog 5 #[v0, v1, v2] W fun e w' => e = .returned (.bool true) ∧ Below W.heap.size W w' := by
  obtain ⟨s, rfl, rfl, rfl, hs⟩ := Go.ChangeMaps.open_string Tryz.underlying9 o0 h0
  obtain ⟨x, rfl, rfl, rfl, wx⟩ := open_int Tryz.underlying3 o1 h1
  obtain ⟨cs, n, rfl, hl, hf'⟩ := open_agg Tryz.underlying45 (by kernel_rfl) (by kernel_rfl) o2 h2
  obtain ⟨m, hm⟩ : ∃ m : Int, W.cell? ⟨2, 0, none⟩ = some (.int .i64 m) := Tryz.laysLaysMn146.s1_3 W hsh
  match cs, hl with
  | [v0, v1, v2], _ =>
    obtain ⟨_, _, e0, t0⟩ := hf' 0 _ rfl
    obtain ⟨_, _, e1, t1⟩ := hf' 1 _ rfl
    obtain ⟨_, _, e2, t2⟩ := hf' 2 _ rfl
    obtain ⟨z0, rfl, hz0⟩ := open_num t0
    obtain ⟨z1, rfl, hz1⟩ := open_num t1
    obtain ⟨z2, rfl, hz2⟩ := open_num t2
    simp at e0 e1 e2
    subst e0 e1 e2
    have h := core W s.data.toList x z0 z1 z2 m hm (cat_lvl rfl hL.tail.tail.tail.tail.tail.tail) (cat_sgn rfl hL.tail.tail.tail.tail.tail.tail.tail)
    rw [show (⟨s.data.toList.toArray⟩ : ByteArray) = s from by simp] at h
    exact h
end Go.Proofs.YtfbmlbenffkpfaaGreatDoor.catalogDatesLaw
