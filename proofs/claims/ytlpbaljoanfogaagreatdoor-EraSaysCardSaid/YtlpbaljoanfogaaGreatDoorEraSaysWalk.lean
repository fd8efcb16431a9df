import Derived.Test.YtlpbaljoanfogaaGreatDoorRows
import Derived.Test.YtlpbaljoanfogaaGreatDoorEraS
import Derived.Test.YtlpbaljoanfogaaGreatDoorMgI
import Derived.Test.YtlpbaljoanfogaaGreatDoorMg4
set_option linter.unusedSimpArgs false
namespace Go.Proofs.YtlpbaljoanfogaaGreatDoor.eraSaysLaw
set_option linter.unusedVariables false
set_option maxRecDepth 100000
open Go.RowKit Go.ChangeShapes Go.WideShapes Go.Shelf
abbrev sFirst : ByteArray := ⟨#[102, 105, 114, 115, 116]⟩
abbrev gregL : List UInt8 := [103, 114, 101, 103, 111, 114, 105, 97, 110]
def oneR : List (ByteArray × Int) := [(sFirst, 737180)]
abbrev oneO : Obj := .cells #[.string sFirst, .int .i64 737180] 59
theorem reigns_one {w : World} {G : Nat} (h : At w G oneO) : Reigns w w.heap.size (some ⟨G, 0, none⟩) 1 oneR := by
  refine ⟨rfl, by omega, fun x hx => ?_, fun _ => ⟨G, 0, rfl, h.lt, fun i x hx => ?_⟩⟩
  · simp [oneR] at hx; subst hx
    exact ⟨by decide, by unfold I64; omega⟩
  · have c0 := h.cell 0; have c1 := h.cell 1
    match i, hx with
    | 0, hx =>
      simp [oneR] at hx; subst hx
      exact ⟨by simpa using c0, by simpa using c1⟩
theorem good_err : eraErr oneR gregL 1 = 0 := by decide +kernel
theorem d1 : fromB gregL 737545 2020 3 29 = true := by decide +kernel
theorem d2 : fromB gregL 737180 2019 4 0 = true := by decide +kernel
theorem good_pick : PickE oneR 737545 1 (0 : Nat) := .inr ⟨0, rfl, by omega, ⟨_, rfl, by decide⟩, fun j p h1 h2 => by omega⟩
set_option maxHeartbeats 4000000 in
theorem core (w : World) (mx : Int) (hmx : w.cell? ⟨0, 0, none⟩ = some (.int .i64 mx)) (hlv : Lvl w) (hsg : Sgn w) (a : Option Addr) (n c : Nat) (xs : List (ByteArray × Int)) (h : Reigns w w.heap.size a n xs) (nl : List UInt8) (mode x : Int) :
    Calls Tryz.prog 6 #[.slice a n c, .string ⟨nl.toArray⟩, .int .i64 mode, .int .i64 x] w fun e w' => e = .returned (.bool true) ∧ Below w.heap.size w w' := by
  have hgm := World.block_lt_of_cell? _ _ hmx
  have MX : ∀ W, Below w.heap.size w W → W.cell? ⟨0, 0, none⟩ = some (.int .i64 mx) := fun W hW => (hW.cell (p := ⟨0, 0, none⟩) hgm).trans hmx
  have RA : ∀ W, Below w.heap.size w W → Reigns W W.heap.size a n xs := fun W hW => (h.below hW (Nat.le_refl _)).more hW.size
  have CG := Lib.hid (fun (W : World) (hW : Below w.heap.size w W) (G : Nat) (hG : At W G oneO) => show Calls Tryz.prog 22 #[.slice (some ⟨G, 0, none⟩) 1 1, .string ⟨gregL.toArray⟩, .int .i64 1, .int .i64 737545] W fun e w' => e = .returned (sayV sFirst 2 0) ∧ Below W.heap.size W w' from by
    obtain ⟨r, hr, f1⟩ := from_row d1 (by omega) (by omega) (by omega) (by omega)
    obtain ⟨r', hr', f2⟩ := from_row d2 (by omega) (by omega) (by omega) (by omega)
    obtain rfl : r = r' := by rw [hr] at hr'; exact Option.some.inj hr'
    exact era_Say_ok W mx (MX W hW) (hlv.below hW) (hsg.below hW) (some ⟨G, 0, none⟩) 1 1 oneR (reigns_one hG) gregL 1 737545 good_err (inB_yes (by omega) (by omega)) 0 good_pick sFirst 737180 rfl r hr _ _ _ _ _ _ _ _ f1 f2 (fun _ => ⟨by omega, by omega⟩) (fun _ => ⟨by omega, by omega⟩))
  have CE := Lib.hid (fun (W : World) (hW : Below w.heap.size w W) => law_eraError W mx (MX W hW) a n c xs (RA W hW) nl mode)
  have CN := Lib.hid (fun (W : World) (hW : Below w.heap.size w W) (row : List UInt8) (hro : rowOf nl = some row) => named_at (s := ⟨nl.toArray⟩) (by simpa using hro) W mx (MX W hW))
  obtain ⟨kk, hpk⟩ := PickE.exists xs x xs.length (Nat.le_refl _)
  have CR := Lib.hid (fun (W : World) (hW : Below w.heap.size w W) => ref_ReignOf W a n c xs (RA W hW) x kk (by rw [← h.1]; exact hpk))
  have hS : ∃ (s : ByteArray) (m E : Int), (∀ W, Below w.heap.size w W → Calls Tryz.prog 22 #[.slice a n c, .string ⟨nl.toArray⟩, .int .i64 mode, .int .i64 x] W fun e w' => e = .returned (sayV s m E) ∧ Below W.heap.size W w') ∧
      ((eraErr xs nl mode ≠ 0 ∧ s = ⟨#[]⟩ ∧ m = 0 ∧ E = eraErr xs nl mode) ∨ (eraErr xs nl mode = 0 ∧ inB (-4000000) 4000000 x = false ∧ s = ⟨#[]⟩ ∧ m = 0 ∧ E = 3) ∨ (eraErr xs nl mode = 0 ∧ inB (-4000000) 4000000 x = true ∧ kk = -1 ∧ s = ⟨#[]⟩ ∧ m = 0 ∧ E = 6) ∨
        (eraErr xs nl mode = 0 ∧ inB (-4000000) 4000000 x = true ∧ ∃ k : Nat, kk = k ∧ k < n ∧ ∃ s' f row y mo d ee y' mo' d' ee', xs[k]? = some (s', f) ∧ rowOf nl = some row ∧ FromY row x y mo d ee ∧ FromY row f y' mo' d' ee' ∧ (ee = 0 → -10000 ≤ y ∧ y ≤ 10000) ∧ (ee' = 0 → -10000 ≤ y' ∧ y' ≤ 10000) ∧ sayV s m E = sayOut s' mode y ee y' ee')) := by
    by_cases hE : eraErr xs nl mode = 0
    case neg => exact ⟨⟨#[]⟩, 0, eraErr xs nl mode, fun W hW => era_Say_bad W mx (MX W hW) (hlv.below hW) (hsg.below hW) a n c xs (RA W hW) nl mode x _ (.inl ⟨rfl, hE⟩), .inl ⟨hE, rfl, rfl, rfl⟩⟩
    rcases inB_cases (-4000000) 4000000 x with ⟨hd, x1, x2⟩ | ⟨hd, hd'⟩
    case inr => exact ⟨⟨#[]⟩, 0, 3, fun W hW => era_Say_bad W mx (MX W hW) (hlv.below hW) (hsg.below hW) a n c xs (RA W hW) nl mode x _ (.inr (.inl ⟨hE, hd, rfl⟩)), .inr (.inl ⟨hE, hd, rfl, rfl, rfl⟩)⟩
    have hpk' := hpk
    rw [h.1] at hpk'
    rcases hpk' with ⟨hk, _⟩ | ⟨k, hk, hkn, _⟩
    · exact ⟨⟨#[]⟩, 0, 6, fun W hW => era_Say_bad W mx (MX W hW) (hlv.below hW) (hsg.below hW) a n c xs (RA W hW) nl mode x _ (.inr (.inr ⟨hE, hd, by rw [← hk, ← h.1]; exact hpk, rfl⟩)), .inr (.inr (.inl ⟨hE, hd, hk, rfl, rfl, rfl⟩))⟩
    obtain ⟨_, ⟨row, hro⟩, _⟩ := eraErr_zero hE
    have hrow : row ∈ rowsL := List.mem_of_find?_eq_some hro
    have hx := List.getElem?_eq_getElem (show k < xs.length by rw [h.1]; exact hkn)
    obtain ⟨⟨s', f⟩, hsf⟩ : ∃ p, p = xs[k]'(by rw [h.1]; exact hkn) := ⟨_, rfl⟩
    rw [← hsf] at hx
    obtain ⟨y, mo, d, ee, b1, f1, f2⟩ := from_atR hrow x
    obtain ⟨y', mo', d', ee', b1', f1', f2'⟩ := from_atR hrow f
    have hcall := fun W hW => era_Say_ok W mx (MX W hW) (hlv.below hW) (hsg.below hW) a n c xs (RA W hW) nl mode x hE hd k (by rw [← hk, ← h.1]; exact hpk) s' f hx row hro y mo d ee y' mo' d' ee' f1 f1' b1 b1'
    obtain ⟨s, m, E, ho⟩ : ∃ s m E, sayV s m E = sayOut s' mode y ee y' ee' := by
      unfold sayOut
      split
      · exact ⟨_, _, _, rfl⟩
      · split
        · exact ⟨_, _, _, rfl⟩
        · exact ⟨_, _, _, rfl⟩
    rw [← ho] at hcall
    exact ⟨s, m, E, hcall, .inr (.inr (.inr ⟨hE, hd, k, hk, hkn, s', f, row, y, mo, d, ee, y', mo', d', ee', hx, hro, f2, f2', b1, b1', ho⟩))⟩
  obtain ⟨s, m, E, HS, HR⟩ := hS
  have hmode : eraErr xs nl mode = 0 → mode = 1 ∨ mode = 2 := fun h => (eraErr_zero h).2.2
  obtain ⟨EE, hEE⟩ : ∃ q, q = eraErr xs nl mode := ⟨_, rfl⟩
  rw [← hEE] at CE HR hmode
  have HS := Lib.hid HS; have HR := Lib.hid HR; have HMODE := Lib.hid hmode
  have HH := Lib.hid h
  clear hEE hmode MX RA hmx hlv hsg hgm h hpk
  go_enter Tryz.func6, Tryz.ntmps6
  go_wp2_with fail
  have o0 := At.new w oneO
  have b0 := below_new (Below.refl w.heap.size w) oneO
  generalize World.alloc w _ = W0 at o0 b0 ⊢
  have CF := Lib.hid (CG.out W0 b0 w.heap.size o0)
  have B0 := Lib.hid b0
  clear o0 b0 CG
  go_wp2_with fail
  refine CF.out.mono ?_
  unfold sayV
  rintro e w1 ⟨rfl, hb⟩
  have B1 := Lib.hid (below_then B0.out hb)
  clear hb B0 CF
  go_wp2_with fail
  have HSX := HS.out w1 B1.out
  unfold sayV at HSX
  refine HSX.mono ?_
  rintro e w2 ⟨rfl, hb⟩
  have B2 := Lib.hid (below_then B1.out hb)
  clear hb HS HSX B1
  go_wp2_with fail
  refine (CE.out _ B2.out).mono ?_
  rintro e w3 ⟨rfl, hb⟩
  have B3 := Lib.hid (below_then B2.out hb)
  clear hb B2 CE
  rcases HR.out with ⟨hne, rfl, rfl, rfl⟩ | ⟨rfl, hx, rfl, rfl, rfl⟩ | ⟨rfl, hx, hkk, rfl, rfl, rfl⟩ | ⟨rfl, hx, k, rfl, hkn, s', f, row, y, mo, d, ee, y', mo', d', ee', hkx, hro, hfy, hfy', hyb, hyb', hso⟩
  · have hne' : (E != 0) = true := by simpa using hne
    have hne2 : (E == 0) = false := by simpa using hne
    clear HR hne
    go_wp2_with fail
    go_ret
    exact ⟨ret_bool (by simp), B3.out⟩
  · clear HR
    go_wp2_with fail
    refine (CR.out _ B3.out).mono ?_
    rintro e w4 ⟨rfl, hb⟩
    have B4 := Lib.hid (below_then B3.out hb)
    clear hb
    go_wp2_with (go_at_call 12; refine (ref_Day _ _).mono ?_; rw [hx]; rintro e w5 ⟨rfl, rfl⟩)
    go_ret
    exact ⟨ret_bool (by simp), B4.out⟩
  · subst hkk
    clear HR
    go_wp2_with fail
    refine (CR.out _ B3.out).mono ?_
    rintro e w4 ⟨rfl, hb⟩
    have B4 := Lib.hid (below_then B3.out hb)
    clear hb
    go_wp2_with (go_at_call 12; refine (ref_Day _ _).mono ?_; rw [hx]; rintro e w5 ⟨rfl, rfl⟩)
    go_ret
    exact ⟨ret_bool (by simp), B4.out⟩
  · obtain ⟨b, off, rfl, hbB, hcs0⟩ := HH.out.open_ (by omega)
    obtain ⟨s2, f2, hc1, hc2, hx', f1, f2, hsz⟩ := hcs0 k hkn
    rw [hkx] at hx'
    cases hx'
    have HC1 := Lib.hid hc1; have HC2 := Lib.hid hc2; have HBB := Lib.hid hbB; have HRO := Lib.hid hro; have HKN := Lib.hid hkn
    have CY := Lib.hid hfy; have CY' := Lib.hid hfy'; have HY := Lib.hid hyb; have HY' := Lib.hid hyb'; have HSO := Lib.hid hso
    have hm12 := HMODE.out rfl
    have HM := Lib.hid hm12
    have hkl : decide ((k : Int) < 0) = false := by simp
    clear hc1 hc2 hcs0 HR hkx hro hfy hfy' hyb hyb' hso HH HMODE hm12 hbB
    go_wp2_with fail
    refine (CR.out _ B3.out).mono ?_
    rintro e w4 ⟨rfl, hb⟩
    have B4 := Lib.hid (below_then B3.out hb)
    clear hb B3 CR
    go_wp2_with (go_at_call 12; refine (ref_Day _ _).mono ?_; rw [hx]; rintro e w5 ⟨rfl, rfl⟩)
    refine (CN.out _ B4.out row HRO.out).mono ?_
    rintro e w5 ⟨v, rfl, p1, q1, r1, p2, q2, r2, g, rfl, k1, k2, hcal, hmk, hb⟩
    have y5 := At.new w5 (yrW row p1 p2 q1 r1 q2 r2 g)
    have B5 := Lib.hid (below_new (below_then B4.out hb) (yrW row p1 p2 q1 r1 q2 r2 g))
    have HC := Lib.hid (hcal.alloc (yrW row p1 p2 q1 r1 q2 r2 g))
    have HMK := Lib.hid (hmk.then_ (below_new (Below.refl _ _) (yrW row p1 p2 q1 r1 q2 r2 g)))
    obtain ⟨T, hT⟩ : ∃ T, T = w5.heap.size := ⟨_, rfl⟩
    rw [← hT] at y5
    clear hb B4 hcal hmk k1 k2 CN
    go_upto_region 17 with fail
    rw [← hT]
    generalize World.alloc w5 _ = W5 at y5 B5 HC HMK ⊢
    clear hT
    have Y5 := Lib.hid y5
    have x0 := y5.cell 0; have x1 := y5.cell 1; have x2 := y5.cell 2; have x3 := y5.cell 3; have x4 := y5.cell 4; have x5 := y5.cell 5; have x6 := y5.cell 6; have x7 := y5.cell 7; have x8 := y5.cell 8; simp at x0 x1 x2 x3 x4 x5 x6 x7 x8
    have hl := y5.lt
    clear y5
    go_wp2_with fail
    clear x0 x1 x2 x3 x4 x5 x6 x7 x8 hl
    refine (CY.out W5 g p1 p2 q1 r1 q2 r2 HMK.out HC.out).mono ?_
    rintro e w6 ⟨rfl, hb⟩
    have o6 := At.new w6 (dateO y mo d)
    have Y6 := Lib.hid ((Y5.out.then_ hb).alloc (dateO y mo d))
    have B6 := Lib.hid (below_new (below_then B5.out hb) (dateO y mo d))
    have HC6 := Lib.hid ((HC.out.then_ hb).alloc (dateO y mo d))
    have HM6 := Lib.hid ((HMK.out.then_ hb).then_ (below_new (Below.refl _ _) (dateO y mo d)))
    obtain ⟨T6, hT⟩ : ∃ T, T = w6.heap.size := ⟨_, rfl⟩
    rw [← hT] at o6
    clear hb Y5 B5 HC HMK CY
    go_upto_region 18 with fail
    rw [← hT]
    generalize World.alloc w6 _ = W6 at o6 Y6 B6 HC6 HM6 ⊢
    clear hT
    by_cases he : ee = 0
    case neg =>
      have hne : (ee == 0) = false := by simpa using he
      have ho := HSO.out
      rw [sayOut, if_pos he] at ho
      unfold sayV at ho
      simp at ho
      obtain ⟨rfl, rfl, rfl⟩ := ho
      clear he
      go_wp2_with fail
      go_ret
      exact ⟨ret_bool (by simp), B6.out⟩
    subst he
    have O6 := Lib.hid o6
    clear o6
    have hk0 : (0 : Int) ≤ (k : Int) := by omega
    have hki : (k : Int) < (n : Int) := by omega
    have hkn' : k < n := HKN.out
    go_upto_region 19 with fail
    go_cut [21, 22] from 90 (fun t21 t22 wx => ∃ T5, t21 = .pointer (some ⟨T5, 0, none⟩) ∧ t22 = .int .i64 ee' ∧ At wx T5 (dateO y' mo' d') ∧ At wx T6 (dateO y mo d) ∧ Below w.heap.size w wx)
    case first =>
      have CF2 := Lib.hid (fun (W : World) (hC : MarksAt W g (calN row) (lsL row) ∧ CalAt W p1 p2 q1 q2 (msL row) (lsL row)) => CY'.out W g p1 p2 q1 r1 q2 r2 hC.1 hC.2)
      refine wp_region_held_drew (S := fun wx => At wx T (yrW row p1 p2 q1 r1 q2 r2 g) ∧ At wx T6 (dateO y mo d) ∧ Below w.heap.size w wx) (by kernel_rfl) ?_ (fun hHeld => ?_)
      · (try dsimp only); exact ⟨Y6.out.drew, O6.out.drew, B6.out.drew⟩
      refine lex_take (i := 0) (v := ?_) rfl (by kernel_rfl) (by kernel_rfl) (by kernel_rfl) (fun _ _ _ h => h) (by rfl) ?_ (by assumption) ?_
      rotate_left
      · (intro w hSw; (try dsimp only at hSw); have x0 := hSw.1.cell 0; have x1 := hSw.1.cell 1; have x2 := hSw.1.cell 2; have x3 := hSw.1.cell 3; have x4 := hSw.1.cell 4; have x5 := hSw.1.cell 5; have x6 := hSw.1.cell 6; have x7 := hSw.1.cell 7; have x8 := hSw.1.cell 8; have c2 := (hSw.2.2.cell (p := ⟨b, off + k * 2 + 1, none⟩) HBB.out).trans HC2.out; go_simp; try with_reducible rfl)
      try simp only [Act.put, List.setIfInBounds_toArray, List.set_cons_zero, List.set_cons_succ]
      refine lex_take (i := 1) (v := ?_) rfl (by kernel_rfl) (by kernel_rfl) (by kernel_rfl) (fun _ _ _ h => h) (by rfl) ?_ (by assumption) ?_
      rotate_left
      · (intro w hSw; (try dsimp only at hSw); have x0 := hSw.1.cell 0; have x1 := hSw.1.cell 1; have x2 := hSw.1.cell 2; have x3 := hSw.1.cell 3; have x4 := hSw.1.cell 4; have x5 := hSw.1.cell 5; have x6 := hSw.1.cell 6; have x7 := hSw.1.cell 7; have x8 := hSw.1.cell 8; have c2 := (hSw.2.2.cell (p := ⟨b, off + k * 2 + 1, none⟩) HBB.out).trans HC2.out; go_simp; try with_reducible rfl)
      try simp only [Act.put, List.setIfInBounds_toArray, List.set_cons_zero, List.set_cons_succ]
      refine lex_take (i := 2) (v := ?_) rfl (by kernel_rfl) (by kernel_rfl) (by kernel_rfl) (fun _ _ _ h => h) (by rfl) ?_ (by assumption) ?_
      rotate_left
      · (intro w hSw; (try dsimp only at hSw); have x0 := hSw.1.cell 0; have x1 := hSw.1.cell 1; have x2 := hSw.1.cell 2; have x3 := hSw.1.cell 3; have x4 := hSw.1.cell 4; have x5 := hSw.1.cell 5; have x6 := hSw.1.cell 6; have x7 := hSw.1.cell 7; have x8 := hSw.1.cell 8; have c2 := (hSw.2.2.cell (p := ⟨b, off + k * 2 + 1, none⟩) HBB.out).trans HC2.out; go_simp; try with_reducible rfl)
      try simp only [Act.put, List.setIfInBounds_toArray, List.set_cons_zero, List.set_cons_succ]
      refine lex_take (i := 3) (v := ?_) rfl (by kernel_rfl) (by kernel_rfl) (by kernel_rfl) (fun _ _ _ h => h) (by rfl) ?_ (by assumption) ?_
      rotate_left
      · (intro w hSw; (try dsimp only at hSw); have x0 := hSw.1.cell 0; have x1 := hSw.1.cell 1; have x2 := hSw.1.cell 2; have x3 := hSw.1.cell 3; have x4 := hSw.1.cell 4; have x5 := hSw.1.cell 5; have x6 := hSw.1.cell 6; have x7 := hSw.1.cell 7; have x8 := hSw.1.cell 8; have c2 := (hSw.2.2.cell (p := ⟨b, off + k * 2 + 1, none⟩) HBB.out).trans HC2.out; go_simp; try with_reducible rfl)
      try simp only [Act.put, List.setIfInBounds_toArray, List.set_cons_zero, List.set_cons_succ]
      refine lex_take (i := 4) (v := ?_) rfl (by kernel_rfl) (by kernel_rfl) (by kernel_rfl) (fun _ _ _ h => h) (by rfl) ?_ (by assumption) ?_
      rotate_left
      · (intro w hSw; (try dsimp only at hSw); have x0 := hSw.1.cell 0; have x1 := hSw.1.cell 1; have x2 := hSw.1.cell 2; have x3 := hSw.1.cell 3; have x4 := hSw.1.cell 4; have x5 := hSw.1.cell 5; have x6 := hSw.1.cell 6; have x7 := hSw.1.cell 7; have x8 := hSw.1.cell 8; have c2 := (hSw.2.2.cell (p := ⟨b, off + k * 2 + 1, none⟩) HBB.out).trans HC2.out; go_simp; try with_reducible rfl)
      try simp only [Act.put, List.setIfInBounds_toArray, List.set_cons_zero, List.set_cons_succ]
      refine lex_take (i := 5) (v := ?_) rfl (by kernel_rfl) (by kernel_rfl) (by kernel_rfl) (fun _ _ _ h => h) (by rfl) ?_ (by assumption) ?_
      rotate_left
      · (intro w hSw; (try dsimp only at hSw); have x0 := hSw.1.cell 0; have x1 := hSw.1.cell 1; have x2 := hSw.1.cell 2; have x3 := hSw.1.cell 3; have x4 := hSw.1.cell 4; have x5 := hSw.1.cell 5; have x6 := hSw.1.cell 6; have x7 := hSw.1.cell 7; have x8 := hSw.1.cell 8; have c2 := (hSw.2.2.cell (p := ⟨b, off + k * 2 + 1, none⟩) HBB.out).trans HC2.out; go_simp; try with_reducible rfl)
      try simp only [Act.put, List.setIfInBounds_toArray, List.set_cons_zero, List.set_cons_succ]
      have n1 : T < W6.heap.size := hHeld.1.lt
      have n2 : T6 < W6.heap.size := hHeld.2.1.lt
      have n3 : w.heap.size ≤ W6.heap.size := hHeld.2.2.size
      refine lex_step2 (i := 6) (j := 10) rfl rfl (by kernel_rfl) (by rfl) (by rfl) (fun Kx hKx => ?_) (fun Kx hKx => ?_)
      · (have hX := (⟨HM6.out.then_ (Below.refl _ _).drew, HC6.out.then_ (Below.refl _ _).drew⟩ : MarksAt _ g (calN row) (lsL row) ∧ CalAt _ p1 p2 q1 q2 (msL row) (lsL row)); (go_simp; go_at_call 15; (with_reducible refine (CF2.out _ hX).mono ?_); rintro e w5 ⟨rfl, hb5⟩; try go_wp2_with fail))
        refine hKx.out _ _ ?_ (fun hHeld => ?_)
        · (try dsimp only); exact ⟨hHeld.1.then_ hb5, hHeld.2.1.then_ hb5, below_then hHeld.2.2 hb5⟩
        clear hKx Kx
        try simp only [Act.put, List.setIfInBounds_toArray, List.set_cons_zero, List.set_cons_succ]
        refine lex_take (i := 7) (v := ?_) rfl (by kernel_rfl) (by kernel_rfl) (by kernel_rfl) (fun _ _ _ h => h) (by rfl) ?_ (by assumption) ?_
        rotate_left
        · (intro w hSw; (try dsimp only at hSw); go_simp; try with_reducible rfl)
        try simp only [Act.put, List.setIfInBounds_toArray, List.set_cons_zero, List.set_cons_succ]
        refine lex_take (i := 8) (v := ?_) rfl (by kernel_rfl) (by kernel_rfl) (by kernel_rfl) (fun _ _ _ h => h) (by rfl) ?_ (by assumption) ?_
        rotate_left
        · (intro w hSw; (try dsimp only at hSw); go_simp; try with_reducible rfl)
        try simp only [Act.put, List.setIfInBounds_toArray, List.set_cons_zero, List.set_cons_succ]
        refine lex_take (i := 9) (v := ?_) rfl (by kernel_rfl) (by kernel_rfl) (by kernel_rfl) (fun _ _ _ h => h) (by rfl) ?_ (by assumption) ?_
        rotate_left
        · (intro w hSw; (try dsimp only at hSw); go_simp; try with_reducible rfl)
        try simp only [Act.put, List.setIfInBounds_toArray, List.set_cons_zero, List.set_cons_succ]
        have n1 : T < w5.heap.size := hHeld.1.lt
        have n2 : T6 < w5.heap.size := hHeld.2.1.lt
        have n3 : w.heap.size ≤ w5.heap.size := hHeld.2.2.size
        refine lex_step (i := 10) rfl (by kernel_rfl) (by rfl) (fun Kx hKx => ?_)
        go_simp
        refine hKx.out _ _ ?_ (fun hHeld => ?_)
        · (try dsimp only); exact ⟨hHeld.1.alloc _, hHeld.2.1.alloc _, below_new hHeld.2.2 _⟩
        clear hKx Kx
        try simp only [Act.put, List.setIfInBounds_toArray, List.set_cons_zero, List.set_cons_succ]
        have z5 := At.new w5 (dateO 0 0 0)
        obtain ⟨T5, hT5⟩ : ∃ T, T = w5.heap.size := ⟨_, rfl⟩
        rw [← hT5] at z5
        rw [← hT5] at n1 n2 n3
        rw [← hT5]
        clear hT5
        replace n1 : T ≠ T5 := by omega
        replace n2 : T6 ≠ T5 := by omega
        generalize World.alloc w5 _ = Wa at z5 hHeld ⊢
        have y0 := z5.cell 0; have y1 := z5.cell 1; have y2 := z5.cell 2; simp at y0 y1 y2
        have fz0 := z5.frozen 0; have fz1 := z5.frozen 1; have fz2 := z5.frozen 2
        have hly := z5.lt
        have HO := one_set3 Wa T5 ((.int .i64 y')) ((.int .i64 mo')) ((.int .i64 d'))
        refine lex_step (i := 11) rfl (by kernel_rfl) (by rfl) (fun Kx hKx => ?_)
        go_simp
        try go_wp2_with fail
        refine hKx.out _ _ ?_ (fun hHeld => ?_)
        · (try dsimp only); exact ⟨At.oneKept hHeld.1 HO n1, At.oneKept hHeld.2.1 HO n2, HO.below_own hHeld.2.2 n3⟩
        clear hKx Kx
        try simp only [Act.put, List.setIfInBounds_toArray, List.set_cons_zero, List.set_cons_succ]
        have zz := z5.store3 ((.int .i64 y')) ((.int .i64 mo')) ((.int .i64 d'))
        clear HO hly z5 fz0 y0 fz1 y1 fz2 y2
        generalize World.setCell (World.setCell _ _ _) _ _ = Wb at zz hHeld ⊢
        refine lex_take (i := 12) (v := ?_) rfl (by kernel_rfl) (by kernel_rfl) (by kernel_rfl) (fun _ _ _ h => h) (by rfl) ?_ (by assumption) ?_
        rotate_left
        · (intro w hSw; (try dsimp only at hSw); go_simp; try with_reducible rfl)
        try simp only [Act.put, List.setIfInBounds_toArray, List.set_cons_zero, List.set_cons_succ]
        refine wpAnyH_done (by kernel_rfl) ?_ _
        go_wp2_with fail
        go_meet
        case rel => exact ⟨T5, rfl, rfl, zz, hHeld.2.1, hHeld.2.2⟩
      · go_simp
        refine hKx.out _ _ ?_ (fun hHeld => ?_)
        · (try dsimp only); exact ⟨hHeld.1.alloc _, hHeld.2.1.alloc _, below_new hHeld.2.2 _⟩
        clear hKx Kx
        try simp only [Act.put, List.setIfInBounds_toArray, List.set_cons_zero, List.set_cons_succ]
        have z4 := (At.new W6 (dateO 0 0 0)).drew
        have hX := (⟨(HM6.out.then_ (below_new (Below.refl _ _) (dateO 0 0 0))).then_ (Below.refl _ _).drew, (HC6.out.alloc (dateO 0 0 0)).then_ (Below.refl _ _).drew⟩ : MarksAt _ g (calN row) (lsL row) ∧ CalAt _ p1 p2 q1 q2 (msL row) (lsL row))
        obtain ⟨T5, hT5⟩ : ∃ T, T = W6.heap.size := ⟨_, rfl⟩
        rw [← hT5] at z4
        rw [← hT5] at n1 n2 n3
        rw [← hT5]
        clear hT5
        replace n1 : T ≠ T5 := by omega
        replace n2 : T6 ≠ T5 := by omega
        generalize World.drew (World.alloc W6 _) = Wc at z4 hX hHeld ⊢
        refine lex_step (i := 6) rfl (by kernel_rfl) (by rfl) (fun Kx hKx => ?_)
        (go_simp; go_at_call 15; (with_reducible refine (CF2.out _ hX).mono ?_); rintro e w5 ⟨rfl, hb5⟩; try go_wp2_with fail)
        refine hKx.out _ _ ?_ (fun hHeld => ?_)
        · (try dsimp only); exact ⟨hHeld.1.then_ hb5, hHeld.2.1.then_ hb5, below_then hHeld.2.2 hb5⟩
        clear hKx Kx
        try simp only [Act.put, List.setIfInBounds_toArray, List.set_cons_zero, List.set_cons_succ]
        refine lex_take (i := 7) (v := ?_) rfl (by kernel_rfl) (by kernel_rfl) (by kernel_rfl) (fun _ _ _ h => h) (by rfl) ?_ (by assumption) ?_
        rotate_left
        · (intro w hSw; (try dsimp only at hSw); go_simp; try with_reducible rfl)
        try simp only [Act.put, List.setIfInBounds_toArray, List.set_cons_zero, List.set_cons_succ]
        refine lex_take (i := 8) (v := ?_) rfl (by kernel_rfl) (by kernel_rfl) (by kernel_rfl) (fun _ _ _ h => h) (by rfl) ?_ (by assumption) ?_
        rotate_left
        · (intro w hSw; (try dsimp only at hSw); go_simp; try with_reducible rfl)
        try simp only [Act.put, List.setIfInBounds_toArray, List.set_cons_zero, List.set_cons_succ]
        refine lex_take (i := 9) (v := ?_) rfl (by kernel_rfl) (by kernel_rfl) (by kernel_rfl) (fun _ _ _ h => h) (by rfl) ?_ (by assumption) ?_
        rotate_left
        · (intro w hSw; (try dsimp only at hSw); go_simp; try with_reducible rfl)
        try simp only [Act.put, List.setIfInBounds_toArray, List.set_cons_zero, List.set_cons_succ]
        have z5 := z4.then_ hb5
        clear z4
        generalize w5 = Wa at z5 hHeld ⊢
        have y0 := z5.cell 0; have y1 := z5.cell 1; have y2 := z5.cell 2; simp at y0 y1 y2
        have fz0 := z5.frozen 0; have fz1 := z5.frozen 1; have fz2 := z5.frozen 2
        have hly := z5.lt
        have HO := one_set3 Wa T5 ((.int .i64 y')) ((.int .i64 mo')) ((.int .i64 d'))
        refine lex_step (i := 11) rfl (by kernel_rfl) (by rfl) (fun Kx hKx => ?_)
        go_simp
        try go_wp2_with fail
        refine hKx.out _ _ ?_ (fun hHeld => ?_)
        · (try dsimp only); exact ⟨At.oneKept hHeld.1 HO n1, At.oneKept hHeld.2.1 HO n2, HO.below_own hHeld.2.2 n3⟩
        clear hKx Kx
        try simp only [Act.put, List.setIfInBounds_toArray, List.set_cons_zero, List.set_cons_succ]
        have zz := z5.store3 ((.int .i64 y')) ((.int .i64 mo')) ((.int .i64 d'))
        clear HO hly z5 fz0 y0 fz1 y1 fz2 y2
        generalize World.setCell (World.setCell _ _ _) _ _ = Wb at zz hHeld ⊢
        refine lex_take (i := 12) (v := ?_) rfl (by kernel_rfl) (by kernel_rfl) (by kernel_rfl) (fun _ _ _ h => h) (by rfl) ?_ (by assumption) ?_
        rotate_left
        · (intro w hSw; (try dsimp only at hSw); go_simp; try with_reducible rfl)
        try simp only [Act.put, List.setIfInBounds_toArray, List.set_cons_zero, List.set_cons_succ]
        refine wpAnyH_done (by kernel_rfl) ?_ _
        go_wp2_with fail
        go_meet
        case rel => exact ⟨T5, rfl, rfl, zz, hHeld.2.1, hHeld.2.2⟩
    case rest =>
      clear Y6 B6 O6 HC6 HM6
      obtain ⟨T5, rfl, rfl, o5, o6, hB5⟩ := hcut
      have B7 := Lib.hid hB5
      by_cases h2 : ee' = 0
      case neg =>
        have hne : (ee' == 0) = false := by simpa using h2
        have ho := HSO.out
        rw [sayOut, if_neg (by simp), if_pos h2] at ho
        unfold sayV at ho
        simp at ho
        obtain ⟨rfl, rfl, rfl⟩ := ho
        clear h2 hB5
        go_wp2_with fail
        go_ret
        exact ⟨ret_bool (by simp), B7.out⟩
      subst h2
      obtain ⟨y1, y2⟩ := HY.out rfl
      obtain ⟨y3, y4⟩ := HY'.out rfl
      have ho := HSO.out
      rw [sayOut, if_neg (by simp), if_neg (by simp)] at ho
      unfold sayV at ho
      simp at ho
      obtain ⟨rfl, rfl, rfl⟩ := ho
      have hw1 : IntKind.i64.wrap (y - y') = y - y' := IntWalk.i64_in _ (by omega)
      have hw2 : IntKind.i64.wrap (y - y' + 2) = y - y' + 2 := IntWalk.i64_in _ (by omega)
      have hw3 : IntKind.i64.wrap (y - y' + 2 - mode) = y - y' + 2 - mode := IntWalk.i64_in _ (by have := HM.out; omega)
      have he3 : (y - y' + moreE mode == y - y' + 2 - mode) = true := by
        rw [beq_iff_eq]; rcases HM.out with rfl | rfl <;> simp [moreE] <;> omega
      have c1 := (hB5.cell (p := ⟨b, off + k * 2, none⟩) HBB.out).trans HC1.out
      have x0 := o6.cell 0
      have x1 := o5.cell 0
      simp at x0 x1
      have hl := o6.lt; have hl2 := o5.lt; have hz5 := hB5.size
      have hbz : b < wc.heap.size := by have := HBB.out; omega
      clear o5 o6 hB5
      go_wp2_with fail
      go_ret
      exact ⟨ret_bool (by simp), B7.out⟩
theorem walk {H : Type} {enc : TypeId × Value → H} {v0 v1 v2 v3 : Value} {d0 d1 d2 d3 : DataW H} {p0 p1 p2 p3 : List MemPlace} {base : Nat} (W : World)
    (o0 : Value.okWide Tryz.prog W .any base 57 v0) (h0 : DataW.Trod enc Tryz.prog W 0 (fun _ => true) true 57 v0 d0 p0)
    (o1 : Value.okWide Tryz.prog W .any base 9 v1) (h1 : DataW.Trod enc Tryz.prog W 0 (fun _ => true) true 9 v1 d1 p1)
    (hsz : ∀ bytes, d1 = .lit (.string bytes) → bytes.length ≤ reachBytes)
    (o2 : Value.okWide Tryz.prog W .any base 3 v2) (h2 : DataW.Trod enc Tryz.prog W 0 (fun _ => true) true 3 v2 d2 p2)
    (o3 : Value.okWide Tryz.prog W .any base 3 v3) (h3 : DataW.Trod enc Tryz.prog W 0 (fun _ => true) true 3 v3 d3 p3)
    (hL : laidMet Tryz.prog Rows.eraSaysRow.laid W) (hsh : W.ShapedOpen Tryz.prog) :
    Calls Tryz.prog 6 #[v0, v1, v2, v3] W fun e w' => e = .returned (.bool true) ∧ Below W.heap.size W w' := by
  obtain ⟨a0, len0, cap0, rfl⟩ := okWide_slice Tryz.underlying57 o0
  obtain ⟨fuel, hf⟩ := h0
  obtain ⟨a, n, c, xs, e, hR⟩ := open_Reigns (by simpa [Value.cells] using hf)
  injection e with e1 e2 e3
  subst e1 e2 e3
  obtain ⟨s, rfl, rfl, rfl, hs⟩ := Go.ChangeMaps.open_string Tryz.underlying9 o1 h1
  obtain ⟨z2, rfl, rfl, rfl, hz2⟩ := open_int Tryz.underlying3 o2 h2
  obtain ⟨z3, rfl, rfl, rfl, hz3⟩ := open_int Tryz.underlying3 o3 h3
  obtain ⟨mx, hmx⟩ : ∃ m : Int, W.cell? ⟨0, 0, none⟩ = some (.int .i64 m) := Tryz.laysLaysMn146.s1_3 W hsh
  have h := core W mx hmx (cat_lvl rfl hL.tail.tail.tail.tail.tail.tail) (cat_sgn rfl hL.tail.tail.tail.tail.tail.tail.tail) a0 len0 cap0 xs hR s.data.toList z2 z3
  rw [show (⟨s.data.toList.toArray⟩ : ByteArray) = s from by simp] at h
  exact h
end Go.Proofs.YtlpbaljoanfogaaGreatDoor.eraSaysLaw
