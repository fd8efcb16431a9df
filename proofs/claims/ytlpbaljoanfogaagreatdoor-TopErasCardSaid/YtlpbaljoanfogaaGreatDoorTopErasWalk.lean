import Derived.Test.YtlpbaljoanfogaaGreatDoorRows
import Derived.Test.YtlpbaljoanfogaaGreatDoorTopE0
import Derived.Test.YtlpbaljoanfogaaGreatDoorMgI
set_option linter.unusedSimpArgs false
namespace Go.Proofs.YtlpbaljoanfogaaGreatDoor.topErasLaw
set_option linter.unusedVariables false
set_option maxRecDepth 100000
open Go.RowKit Go.ChangeShapes Go.WideShapes Go.Shelf
abbrev sA : ByteArray := ⟨#[97]⟩
abbrev gregL : List UInt8 := [103, 114, 101, 103, 111, 114, 105, 97, 110]
def oneR : List (ByteArray × Int) := [(sA, 1)]
abbrev oneO : Obj := .cells #[.string sA, .int .i64 1] 59
theorem reigns_one {w : World} {G : Nat} (h : At w G oneO) : Reigns w w.heap.size (some ⟨G, 0, none⟩) 1 oneR := by
  refine ⟨rfl, by omega, fun x hx => ?_, fun _ => ⟨G, 0, rfl, h.lt, fun i x hx => ?_⟩⟩
  · simp [oneR] at hx; subst hx
    exact ⟨by decide, by unfold I64; omega⟩
  · have c0 := h.cell 0; have c1 := h.cell 1
    match i, hx with
    | 0, hx =>
      simp [oneR] at hx; subst hx
      exact ⟨by simpa using c0, by simpa using c1⟩
theorem good_err : eraErr oneR gregL 2 = 0 := by decide +kernel
theorem d1 : fromB gregL 366 2 0 0 = true := by decide +kernel
theorem d2 : fromB gregL 1 1 0 0 = true := by decide +kernel
theorem good_pick : PickE oneR 366 1 (0 : Nat) := .inr ⟨0, rfl, by omega, ⟨_, rfl, by decide⟩, fun j p h1 h2 => by omega⟩
theorem pick_on {xs : List (ByteArray × Int)} {n k : Nat} {x z nx : Int} (h : PickE xs x n (k : Int)) (hx : x ≤ z) (hz : z ≤ nx) (hno : ∀ i p, i < n → xs[i]? = some p → ¬ (x < p.2 ∧ p.2 ≤ nx)) : PickE xs z n (k : Int) := by
  rcases h with ⟨h, _⟩ | ⟨m, h, h1, ⟨p, hp, hpx⟩, h3⟩
  · omega
  · obtain rfl : k = m := by omega
    refine .inr ⟨k, rfl, h1, ⟨p, hp, by omega⟩, fun j q hj hj2 hq => ?_⟩
    have h4 := h3 j q hj hj2 hq
    have h5 := hno j q hj2 hq
    omega
set_option maxHeartbeats 8000000 in
theorem core (w : World) (mx : Int) (hmx : w.cell? ⟨0, 0, none⟩ = some (.int .i64 mx)) (hlv : Lvl w) (hsg : Sgn w) (a : Option Addr) (n c : Nat) (xs : List (ByteArray × Int)) (h : Reigns w w.heap.size a n xs) (kc mode0 day0 : Int) :
    Calls Tryz.prog 8 #[.slice a n c, .int .i64 kc, .int .i64 mode0, .int .i64 day0] w fun e w' => e = .returned (.bool true) ∧ Below w.heap.size w w' := by
  have hgm := World.block_lt_of_cell? _ _ hmx
  have MX : ∀ W, Below w.heap.size w W → W.cell? ⟨0, 0, none⟩ = some (.int .i64 mx) := fun W hW => (hW.cell (p := ⟨0, 0, none⟩) hgm).trans hmx
  have CG := Lib.hid (fun (W : World) (hW : Below w.heap.size w W) (G : Nat) (hG : At W G oneO) => show Calls Tryz.prog 22 #[.slice (some ⟨G, 0, none⟩) 1 1, .string ⟨gregL.toArray⟩, .int .i64 2, .int .i64 366] W fun e w' => e = .returned (sayV sA 1 0) ∧ Below W.heap.size W w' from by
    obtain ⟨r, hr, f1⟩ := from_row d1 (by omega) (by omega) (by omega) (by omega)
    obtain ⟨r', hr', f2⟩ := from_row d2 (by omega) (by omega) (by omega) (by omega)
    obtain rfl : r = r' := by rw [hr] at hr'; exact Option.some.inj hr'
    exact era_Say_ok W mx (MX W hW) (hlv.below hW) (hsg.below hW) (some ⟨G, 0, none⟩) 1 1 oneR (reigns_one hG) gregL 2 366 good_err (inB_yes (by omega) (by omega)) 0 good_pick sA 1 rfl r hr _ _ _ _ _ _ _ _ f1 f2 (fun _ => ⟨by omega, by omega⟩) (fun _ => ⟨by omega, by omega⟩))
  obtain ⟨row, hro⟩ := nameK_row kc
  have hrow : row ∈ rowsL := List.mem_of_find?_eq_some hro
  have CNM := Lib.hid (fun W => top_aName kc W)
  obtain ⟨nl, hnl⟩ : ∃ q, q = nameK kc := ⟨_, rfl⟩
  rw [← hnl] at CNM hro
  clear hnl
  have CC := fun (W : World) (hW : Below w.heap.size w W) => cat_Calendar nl W mx (MX W hW) (hlv.below hW) (hsg.below hW)
  unfold CalPost at CC
  rw [hro] at CC
  have CC := Lib.hid CC
  obtain ⟨ma, mb⟩ := modA_in mode0 2 (by omega)
  obtain ⟨da, db⟩ := modA_in day0 700000 (by omega)
  have CM1 := Lib.hid (fun W => top_aCut mode0 1 2 W (by omega) (by omega) (by omega) (by omega))
  have CM2 := Lib.hid (fun W => top_aCut day0 1 700000 W (by omega) (by omega) (by omega) (by omega))
  obtain ⟨mode, hmode⟩ : ∃ q, q = 1 + modA mode0 2 := ⟨_, rfl⟩
  obtain ⟨day, hday⟩ : ∃ q, q = 1 + modA day0 700000 := ⟨_, rfl⟩
  rw [← hmode] at CM1
  rw [← hday] at CM2
  have hd1 : 1 ≤ day := by omega
  have hd2 : day ≤ 700000 := by omega
  clear hmode hday ma mb da db
  obtain ⟨s0, m0, E0, S0, R0⟩ := say_any w mx hmx hlv hsg a n c xs h nl mode day row hro
  have S0 := Lib.hid S0
  have SAY := Lib.hid (fun (x : Int) => say_any w mx hmx hlv hsg a n c xs h nl mode x row hro)
  have HH := Lib.hid h; have L1 := Lib.hid h.1; have hnb := h.2.1
  have HRW := Lib.hid hrow
  clear hmx hlv hsg hgm MX h hro hrow
  go_enter Tryz.func8, Tryz.ntmps8
  go_wp2_with fail
  have o0 := At.new w oneO
  have b0 := below_new (Below.refl w.heap.size w) oneO
  generalize World.alloc w _ = W0 at o0 b0 ⊢
  have CF := CG.out W0 b0 w.heap.size o0
  unfold sayV at CF
  have B0 := Lib.hid b0
  clear o0 b0 CG
  refine CF.mono ?_
  rintro e w1 ⟨rfl, hb⟩
  have B1 := Lib.hid (below_then B0.out hb)
  clear hb B0 CF
  go_wp2_with (first | (go_at_call 26; (first | (with_reducible refine (CM1.out _).mono ?_) | (with_reducible refine (CM2.out _).mono ?_)); rintro e w2 ⟨rfl, rfl⟩))
  refine (CNM.out _).mono ?_
  rintro e w2 ⟨rfl, hb⟩
  have B2 := Lib.hid (below_then B1.out hb)
  clear hb B1
  go_wp2_with fail
  have S0X := S0.out _ B2.out
  unfold sayV at S0X
  refine S0X.mono ?_
  rintro e w3 ⟨rfl, hb⟩
  have B3 := Lib.hid (below_then B2.out hb)
  clear hb B2 S0 S0X
  rcases R0 with ⟨hne, _⟩ | ⟨rfl, hEE, _, _, k0, y0, y0', f0, hs0⟩
  · have hne' : (E0 != 0) = true := by simpa using hne
    clear hne
    go_wp2_with fail
    go_ret
    exact ⟨ret_bool (by simp), B3.out⟩
  have HS0 := Lib.hid hs0; have HEE := Lib.hid hEE
  obtain ⟨ya, yb⟩ := hs0.yb
  obtain ⟨dm, dd, hfc⟩ := hs0.fc
  have hm12 := (eraErr_zero hEE).2.2
  clear hs0 hEE
  go_wp2_with fail
  refine (CNM.out _).mono ?_
  rintro e w4 ⟨rfl, hb⟩
  have B4 := Lib.hid (below_then B3.out hb)
  clear hb B3
  go_wp2_with fail
  refine (CC.out _ B4.out).mono ?_
  rintro e w5 ⟨v, rfl, p1, u1, r1, p2, u2, r2, rfl, k1, k2, hcal, hb⟩
  have o5 := At.new w5 (calAO row p1 p2 u1 r1 u2 r2)
  have B5 := Lib.hid (below_new (below_then B4.out hb) (calAO row p1 p2 u1 r1 u2 r2))
  have C5 := Lib.hid (hcal.alloc (calAO row p1 p2 u1 r1 u2 r2))
  have K1 := Lib.hid k1
  obtain ⟨T, hT⟩ : ∃ T, T = w5.heap.size := ⟨_, rfl⟩
  rw [← hT] at o5
  clear hb B4 hcal k1 k2 CC
  go_upto_region 9 with fail
  rw [← hT]
  generalize World.alloc w5 _ = W5 at o5 B5 C5 ⊢
  clear hT
  have A5 := Lib.hid o5
  have x0 := o5.cell 0; have x1 := o5.cell 1; have x2 := o5.cell 2; have x3 := o5.cell 3; have x4 := o5.cell 4; simp at x0 x1 x2 x3 x4
  have hl := o5.lt
  clear o5
  go_wp2_with fail
  clear x0 x1 x2 x3 x4 hl
  refine (hfc W5 p1 p2 u1 r1 u2 r2 K1.out C5.out).mono ?_
  rintro e w6 ⟨rfl, hb⟩
  have o6 := At.new w6 (dateO y0 dm dd)
  have A6 := Lib.hid ((A5.out.then_ hb).alloc (dateO y0 dm dd))
  have B6 := Lib.hid (below_new (below_then B5.out hb) (dateO y0 dm dd))
  have C6 := Lib.hid ((C5.out.then_ hb).alloc (dateO y0 dm dd))
  obtain ⟨T6, hT⟩ : ∃ T, T = w6.heap.size := ⟨_, rfl⟩
  rw [← hT] at o6
  clear hb A5 B5 C5 hfc
  go_upto_region 10 with fail
  rw [← hT]
  generalize World.alloc w6 _ = W6 at o6 A6 B6 C6 ⊢
  clear hT
  have hwy : IntKind.i64.wrap (y0 + 1) = y0 + 1 := IntWalk.i64_in _ (by omega)
  obtain ⟨nx, ne, CNY, hny⟩ := new_year HRW.out (y0 + 1)
  have CNY := Lib.hid CNY; have HNY := Lib.hid hny
  have aa := A6.out
  have x0 := aa.cell 0; have x1 := aa.cell 1; have x2 := aa.cell 2; have x3 := aa.cell 3; have x4 := aa.cell 4; simp at x0 x1 x2 x3 x4
  have z0 : W6.cell? ⟨T6, 0, none⟩ = some (.int .i64 y0) := o6.cell 0
  have hl := aa.lt; have hl2 := o6.lt
  clear aa o6 hny
  go_wp2_with fail
  clear x0 x1 x2 x3 x4 z0 hl hl2
  refine (CNY.out W6 p1 p2 u1 r1 u2 r2 K1.out C6.out).mono ?_
  rintro e w7 ⟨rfl, hb⟩
  have B7 := Lib.hid (below_then B6.out hb)
  clear hb A6 B6 C6 CNY
  by_cases hne0 : ne = 0
  case neg =>
    have hne' : (ne != 0) = true := by simpa using hne0
    clear hne0
    go_wp2_with fail
    go_ret
    exact ⟨ret_bool (by simp), B7.out⟩
  subst hne0
  obtain ⟨hnx, nx1, nx2⟩ := HNY.out rfl
  have HNX := Lib.hid hnx
  have hin := HS0.out.inY
  have hdn : day ≤ nx - 1 := by have := hin.2; omega
  have hwn : IntKind.i64.wrap (nx - 1) = nx - 1 := IntWalk.i64_in _ (by omega)
  have hpk : ∀ z, day ≤ z → ∃ k : Nat, PickE xs z n (k : Int) := fun z hz => by
    obtain ⟨q, hq⟩ := PickE.exists xs z xs.length (Nat.le_refl _)
    rw [L1.out] at hq
    rcases hq with ⟨rfl, h1⟩ | ⟨m, rfl, hm⟩
    · exfalso
      rcases HS0.out.pick with ⟨h, _⟩ | ⟨m, h, hm, ⟨p, hp, hpx⟩, _⟩
      · omega
      · have := h1 m p hm hp; omega
    · exact ⟨m, .inr ⟨m, rfl, hm⟩⟩
  obtain ⟨s1, m1, E1, S1, R1⟩ := SAY.out (nx - 1)
  obtain ⟨s2, m2, E2, S2, R2⟩ := SAY.out nx
  have S1 := Lib.hid S1; have S2 := Lib.hid S2
  have R1 : (E1 = 3) ∨ (E1 = 0 ∧ ∃ (k : Nat) (y y' f : Int), SaidAt xs row mode (nx - 1) n k s1 m1 y y' f) := by
    rcases R1 with ⟨_, h⟩ | ⟨h, _, _, _, h2⟩
    · exact .inl (h HEE.out (by omega) (by omega) (hpk _ (by omega)))
    · exact .inr ⟨h, h2⟩
  have R2 : (E2 = 3) ∨ (E2 = 0 ∧ ∃ (k : Nat) (y y' f : Int), SaidAt xs row mode nx n k s2 m2 y y' f) := by
    rcases R2 with ⟨_, h⟩ | ⟨h, _, _, _, h2⟩
    · exact .inl (h HEE.out (by omega) (by omega) (hpk _ (by omega)))
    · exact .inr ⟨h, h2⟩
  clear hpk hin SAY HNY hnx
  go_wp2_with fail
  refine (CNM.out _).mono ?_
  rintro e w8 ⟨rfl, hb⟩
  have B8 := Lib.hid (below_then B7.out hb)
  clear hb B7
  go_wp2_with fail
  have SX := S1.out _ B8.out
  unfold sayV at SX
  refine SX.mono ?_
  rintro e w9 ⟨rfl, hb⟩
  have B9 := Lib.hid (below_then B8.out hb)
  clear hb B8 SX S1
  go_wp2_with fail
  refine (CNM.out _).mono ?_
  rintro e w10 ⟨rfl, hb⟩
  have B10 := Lib.hid (below_then B9.out hb)
  clear hb B9
  go_wp2_with fail
  have SX := S2.out _ B10.out
  unfold sayV at SX
  refine SX.mono ?_
  rintro e w11 ⟨rfl, hb⟩
  have B11 := Lib.hid (below_then B10.out hb)
  clear hb B10 SX S2
  rcases R1 with rfl | ⟨rfl, k1, y1, y1', f1, h1⟩
  · go_wp2_with fail
    go_ret
    exact ⟨ret_bool (by simp), B11.out⟩
  rcases R2 with rfl | ⟨rfl, k2, y2, y2', f2, h2⟩
  · go_wp2_with fail
    go_ret
    exact ⟨ret_bool (by simp), B11.out⟩
  have H1 := Lib.hid h1; have H2 := Lib.hid h2
  clear h1 h2
  go_wp2_with fail
  go_loopw [25, 27, 118] (fun bv _ i wr => ∃ bb j : Nat, bv = .int .i64 bb ∧ i = .int .i64 j ∧ j ≤ n ∧ bb ≤ j ∧ (bb = 0 → ∀ i p, i < j → xs[i]? = some p → ¬ (day < p.2 ∧ p.2 ≤ nx)) ∧ Below w.heap.size w wr) (fun _ _ i _ => n - (intOf i).toNat)
  case atStart => exact ⟨0, 0, rfl, rfl, by omega, by omega, fun _ i p h => by omega, B11.out⟩
  case round =>
    obtain ⟨bb, j, rfl, rfl, hj, hbj, hno, hB⟩ := hrel
    have HNO := Lib.hid hno; have HB := Lib.hid hB
    clear hno B11
    by_cases hlt : j < n
    · obtain ⟨b, off, rfl, hbB, hcs⟩ := (HH.out.below hB (Nat.le_refl _)).open_ (by omega)
      obtain ⟨s, f, hc1, hc2, hx, hs, f1', f2'⟩ := hcs j hlt
      have HX := Lib.hid hx
      have hz := hB.size
      have hbz : b < wr.heap.size := by omega
      clear hx hcs hB
      by_cases q1 : day < f
      case neg =>
        have hq1 : decide (f > day) = false := by simpa using q1
        have Q1 := Lib.hid q1; clear q1
        go_wp2_with fail
        go_roundw
        case rel =>
          refine ⟨bb, j + 1, rfl, by go_num, by omega, by omega, fun h0 i p hi hp => ?_, below_new HB.out _⟩
          by_cases hij : i = j
          · subst hij; rw [HX.out] at hp; cases hp
            intro ⟨h, _⟩; exact Q1.out h
          · exact HNO.out h0 i p (by omega) hp
        case measure => simp [intOf]; omega
      have hq1 : decide (f > day) = true := by simpa using q1
      by_cases q2 : f ≤ nx
      case neg =>
        have hq2 : decide (f ≤ nx) = false := by simpa using q2
        have Q2 := Lib.hid q2; clear q1 q2
        go_wp2_with fail
        go_roundw
        case rel =>
          refine ⟨bb, j + 1, rfl, by go_num, by omega, by omega, fun h0 i p hi hp => ?_, below_new HB.out _⟩
          by_cases hij : i = j
          · subst hij; rw [HX.out] at hp; cases hp
            intro ⟨_, h⟩; exact Q2.out h
          · exact HNO.out h0 i p (by omega) hp
        case measure => simp [intOf]; omega
      have hq2 : decide (f ≤ nx) = true := by simpa using q2
      have hwb : IntKind.i64.wrap ((bb : Int) + 1) = (bb : Int) + 1 := IntWalk.i64_in _ (by omega)
      clear q1 q2
      go_wp2_with fail
      go_roundw
      case rel => exact ⟨bb + 1, j + 1, by go_num, by go_num, by omega, by omega, fun h0 => absurd h0 (by omega), below_new HB.out _⟩
      case measure => simp [intOf]; omega
    · obtain rfl : j = n := by omega
      clear hB
      by_cases hb0 : bb = 0
      case neg =>
        have hbg : decide ((bb : Int) > 0) = true := by simp; omega
        have hbp : 0 < bb := by omega
        have hbq : decide (0 < bb) = true := by simpa using hbp
        clear hb0
        go_wp2_with fail
        go_ret
        exact ⟨ret_bool (by simp), HB.out⟩
      subst hb0
      have hno := HNO.out rfl
      have h0 := HS0.out; have h1 := H1.out; have h2 := H2.out
      have ok := calOk_of (row_cal HRW.out)
      have g1 := pick_on h0.pick (z := nx - 1) (by omega) (by omega) hno
      have g2 := pick_on h0.pick (z := nx) (by omega) (by omega) hno
      have e1 : (k1 : Int) = k0 := PickE.unique (by rw [L1.out]; exact h1.pick) (by rw [L1.out]; exact g1)
      have e2 : (k2 : Int) = k0 := PickE.unique (by rw [L1.out]; exact h2.pick) (by rw [L1.out]; exact g2)
      obtain rfl : k1 = k0 := by omega
      obtain rfl : k2 = k1 := by omega
      have a1 := h1.at_; have a2 := h2.at_; have a0 := h0.at_
      rw [a0] at a1 a2
      obtain ⟨rfl, rfl⟩ : s0 = s1 ∧ f0 = f1 := by injection a1 with q; injection q with q1 q2; exact ⟨q1, q2⟩
      obtain ⟨rfl, rfl⟩ : s0 = s2 ∧ f0 = f2 := by injection a2 with q; injection q with q1 q2; exact ⟨q1, q2⟩
      have i0 := h0.inY
      have v1 : y1' = y0' := h1.inY'.unique ok h0.inY'
      have v2 : y2' = y0' := h2.inY'.unique ok h0.inY'
      have v3 : y1 = y0 := h1.inY.unique ok ⟨by have := i0.1; omega, by have := HNX.out; omega⟩
      have v4 : y2 = y0 + 1 := h2.inY.unique ok ⟨by have := HNX.out; omega, by have := HNX.out; have := nyOf_mono ok (y0 + 1) 1; simp at this; omega⟩
      have w0 := h0.eq; have w1' := h1.eq; have w2' := h2.eq
      have hMb : 0 ≤ moreE mode ∧ moreE mode ≤ 1 := by unfold moreE; split <;> omega
      have yb0 := h0.yb'
      obtain rfl : m1 = m0 := by omega
      obtain rfl : m2 = m1 + 1 := by omega
      have hwm : IntKind.i64.wrap (m1 + 1) = m1 + 1 := IntWalk.i64_in _ (by omega)
      clear hno h0 h1 h2 ok g1 g2 e1 e2 a1 a2 a0 i0 v1 v2 v3 v4 w0 w1' w2' hMb yb0 H1 H2 HS0
      go_wp2_with fail
      go_ret
      exact ⟨ret_bool (by simp), HB.out⟩
theorem walk {H : Type} {enc : TypeId × Value → H} {v0 v1 v2 v3 : Value} {d0 d1 d2 d3 : DataW H} {p0 p1 p2 p3 : List MemPlace} {base : Nat} (W : World)
    (o0 : Value.okWide Tryz.prog W .any base 57 v0) (h0 : DataW.Trod enc Tryz.prog W 0 (fun _ => true) true 57 v0 d0 p0)
    (o1 : Value.okWide Tryz.prog W .any base 3 v1) (h1 : DataW.Trod enc Tryz.prog W 0 (fun _ => true) true 3 v1 d1 p1)
    (o2 : Value.okWide Tryz.prog W .any base 3 v2) (h2 : DataW.Trod enc Tryz.prog W 0 (fun _ => true) true 3 v2 d2 p2)
    (o3 : Value.okWide Tryz.prog W .any base 3 v3) (h3 : DataW.Trod enc Tryz.prog W 0 (fun _ => true) true 3 v3 d3 p3)
    (hL : laidMet Tryz.prog Rows.topErasRow.laid W) (hsh : W.ShapedOpen Tryz.prog) :
    Calls Tryz.prog 8 #[v0, v1, v2, v3] W fun e w' => e = .returned (.bool true) ∧ Below W.heap.size W w' := by
  obtain ⟨a0, len0, cap0, rfl⟩ := okWide_slice Tryz.underlying57 o0
  obtain ⟨fuel, hf⟩ := h0
  obtain ⟨a, n, c, xs, e, hR⟩ := open_Reigns (by simpa [Value.cells] using hf)
  injection e with e1 e2 e3
  subst e1 e2 e3
  obtain ⟨z1, rfl, rfl, rfl, hz1⟩ := open_int Tryz.underlying3 o1 h1
  obtain ⟨z2, rfl, rfl, rfl, hz2⟩ := open_int Tryz.underlying3 o2 h2
  obtain ⟨z3, rfl, rfl, rfl, hz3⟩ := open_int Tryz.underlying3 o3 h3
  obtain ⟨mx, hmx⟩ : ∃ m : Int, W.cell? ⟨0, 0, none⟩ = some (.int .i64 m) := Tryz.laysLaysMn146.s1_3 W hsh
  exact core W mx hmx (cat_lvl rfl hL.tail.tail.tail.tail.tail.tail) (cat_sgn rfl hL.tail.tail.tail.tail.tail.tail.tail) a0 len0 cap0 xs hR z1 z2 z3
end Go.Proofs.YtlpbaljoanfogaaGreatDoor.topErasLaw
