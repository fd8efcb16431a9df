import Derived.Test.YtlpbaljoanfogaaGreatDoorMg4
import Derived.Test.YtlpbaljoanfogaaGreatDoorMg1
import Derived.Test.YtlpbaljoanfogaaGreatDoorMgN
set_option linter.unusedSimpArgs false
namespace Go.Proofs.YtlpbaljoanfogaaGreatDoor
set_option linter.unusedVariables false
set_option maxRecDepth 100000
open Go.RowKit Go.ChangeShapes Go.WideShapes Go.Shelf
def eraErr (xs : List (ByteArray × Int)) (nl : List UInt8) (mode : Int) : Int :=
  if reignsOut xs ≠ 0 then reignsOut xs else if rowOf nl = none then 5 else if mode ≠ 1 ∧ mode ≠ 2 then 1 else 0
theorem eraErr_zero {xs : List (ByteArray × Int)} {nl : List UInt8} {mode : Int} (h : eraErr xs nl mode = 0) : reignsOut xs = 0 ∧ (∃ row, rowOf nl = some row) ∧ (mode = 1 ∨ mode = 2) := by
  unfold eraErr at h
  split at h
  · rename_i h1; exact absurd h h1
  rename_i h1
  split at h
  · omega
  rename_i h2
  split at h
  · omega
  rename_i h3
  refine ⟨by omega, ?_, by omega⟩
  cases hr : rowOf nl with
  | none => exact absurd hr h2
  | some r => exact ⟨r, rfl⟩
theorem below_setN5 {w W : World} {B : Nat} (h : Below B w W) (v0 v1 v2 v3 v4 : Value) : Below B w (((((W.setCell ⟨B, 0, none⟩ v0).setCell ⟨B, 1, none⟩ v1).setCell ⟨B, 2, none⟩ v2).setCell ⟨B, 3, none⟩ v3).setCell ⟨B, 4, none⟩ v4) :=
  below_set (p := ⟨B, 4, none⟩) (below_set (p := ⟨B, 3, none⟩) (below_set (p := ⟨B, 2, none⟩) (below_set (p := ⟨B, 1, none⟩) (below_set (p := ⟨B, 0, none⟩) h (Nat.le_refl _) v0) (Nat.le_refl _) v1) (Nat.le_refl _) v2) (Nat.le_refl _) v3) (Nat.le_refl _) v4
set_option maxHeartbeats 4000000 in
theorem era_open_bad (w : World) (mx : Int) (hmx : w.cell? ⟨0, 0, none⟩ = some (.int .i64 mx)) (hlv : Lvl w) (hsg : Sgn w) (a : Option Addr) (n c : Nat) (xs : List (ByteArray × Int)) (h : Reigns w w.heap.size a n xs) (nl : List UInt8) (mode E : Int) (hE : eraErr xs nl mode = E) (hne : E ≠ 0) :
    Calls Tryz.prog 44 #[.slice a n c, .string ⟨nl.toArray⟩, .int .i64 mode] w fun e w' => e = .returned (.tuple #[zCalV, .int .i64 E]) ∧ Below w.heap.size w w' := by
  have hgm := World.block_lt_of_cell? _ _ hmx
  have CC := Lib.hid (fun (W : World) (hW : Below w.heap.size w W) => cat_Calendar nl W mx ((hW.cell (p := ⟨0, 0, none⟩) hgm).trans hmx) (hlv.below hW) (hsg.below hW))
  have CE := Lib.hid (fun (W : World) (hW : Below w.heap.size w W) => era_Check W a n c xs ((h.below hW (Nat.le_refl _)).more hW.size))
  have A0 := Lib.hid (At.new w zCalO)
  have B0 := Lib.hid (below_new (Below.refl w.heap.size w) zCalO)
  clear hgm hmx hlv hsg h
  unfold eraErr at hE
  by_cases hr : reignsOut xs = 0
  case neg =>
    rw [if_pos hr] at hE
    have HE := Lib.hid hE
    have hne' : (E != 0) = true := by simpa using hne
    clear hE hr hne CC
    go_enter Tryz.func44, Tryz.ntmps44
    go_wp2_with fail
    refine (CE.out _ B0.out).mono ?_
    rw [HE.out]
    rintro e w1 ⟨rfl, hb⟩
    have A1 := Lib.hid (A0.out.then_ hb)
    have B1 := Lib.hid (below_then B0.out hb)
    clear hb A0 B0 CE HE
    have a1 := A1.out
    have z0 := a1.cell 0; have z1 := a1.cell 1; have z2 := a1.cell 2; have z3 := a1.cell 3; have z4 := a1.cell 4; simp at z0 z1 z2 z3 z4
    have f0 := a1.frozen 0; have f1 := a1.frozen 1; have f2 := a1.frozen 2; have f3 := a1.frozen 3; have f4 := a1.frozen 4
    have hl := a1.lt
    clear a1
    go_wp2_with fail
    have AF := A1.out.store5 (.string ⟨#[]⟩) (.int .i64 0) (.int .i64 0) (.slice none 0 0) (.slice none 0 0)
    have BF := Lib.hid (below_setN5 B1.out (.string ⟨#[]⟩) (.int .i64 0) (.int .i64 0) (.slice none 0 0) (.slice none 0 0))
    clear f0 f1 f2 f3 f4 z0 z1 z2 z3 z4
    generalize World.setCell (World.setCell _ _ _) _ _ = W3 at AF BF ⊢
    have y0 := AF.cell 0; have y1 := AF.cell 1; have y2 := AF.cell 2; have y3 := AF.cell 3; have y4 := AF.cell 4; simp at y0 y1 y2 y3 y4
    exact bodyPost_ret (v := .tuple #[zCalV, .int .i64 E]) (by simp [results, Tryz.results44, go_sem, y0, y1, y2, y3, y4]) rfl ⟨rfl, BF.out⟩
  rw [if_neg (by rw [hr]; simp)] at hE
  have HR := Lib.hid hr
  clear hr
  cases hro : rowOf nl with
  | none =>
    rw [if_pos hro] at hE
    subst hE
    have CX := CC.out
    unfold CalPost at CX
    rw [hro] at CX
    have CY := Lib.hid CX
    clear CX CC hne hro
    go_enter Tryz.func44, Tryz.ntmps44
    go_wp2_with fail
    refine (CE.out _ B0.out).mono ?_
    rw [HR.out]
    rintro e w1 ⟨rfl, hb⟩
    have A1 := Lib.hid (A0.out.then_ hb)
    have B1 := Lib.hid (below_then B0.out hb)
    clear hb A0 B0 CE HR
    go_wp2_with fail
    refine (CY.out _ B1.out).mono ?_
    rintro e w2 ⟨rfl, hb⟩
    have A2 := Lib.hid ((A1.out.then_ hb).alloc zCalO)
    have B2 := Lib.hid (below_new (below_then B1.out hb) zCalO)
    clear hb A1 B1 CY
    go_upto_region 5 with fail
    generalize World.alloc w2 _ = W2 at A2 B2 ⊢
    have a1 := A2.out
    have z0 := a1.cell 0; have z1 := a1.cell 1; have z2 := a1.cell 2; have z3 := a1.cell 3; have z4 := a1.cell 4; simp at z0 z1 z2 z3 z4
    have f0 := a1.frozen 0; have f1 := a1.frozen 1; have f2 := a1.frozen 2; have f3 := a1.frozen 3; have f4 := a1.frozen 4
    have hl := a1.lt
    clear a1
    go_wp2_with fail
    have AF := A2.out.store5 (.string ⟨#[]⟩) (.int .i64 0) (.int .i64 0) (.slice none 0 0) (.slice none 0 0)
    have BF := Lib.hid (below_setN5 B2.out (.string ⟨#[]⟩) (.int .i64 0) (.int .i64 0) (.slice none 0 0) (.slice none 0 0))
    clear f0 f1 f2 f3 f4 z0 z1 z2 z3 z4
    generalize World.setCell (World.setCell _ _ _) _ _ = W3 at AF BF ⊢
    have y0 := AF.cell 0; have y1 := AF.cell 1; have y2 := AF.cell 2; have y3 := AF.cell 3; have y4 := AF.cell 4; simp at y0 y1 y2 y3 y4
    exact bodyPost_ret (v := .tuple #[zCalV, .int .i64 5]) (by simp [results, Tryz.results44, go_sem, y0, y1, y2, y3, y4]) rfl ⟨rfl, BF.out⟩
  | some row =>
    rw [if_neg (by rw [hro]; simp)] at hE
    have hm : mode ≠ 1 ∧ mode ≠ 2 := by
      by_cases hm : mode ≠ 1 ∧ mode ≠ 2
      · exact hm
      · rw [if_neg hm] at hE; exact absurd hE.symm hne
    rw [if_pos hm] at hE
    subst hE
    have m1 : (mode != 1) = true := by simpa using hm.1
    have m2 : (mode != 2) = true := by simpa using hm.2
    have CX := CC.out
    unfold CalPost at CX
    rw [hro] at CX
    have CY := Lib.hid CX
    clear CX CC hne hro hm
    go_enter Tryz.func44, Tryz.ntmps44
    go_wp2_with fail
    refine (CE.out _ B0.out).mono ?_
    rw [HR.out]
    rintro e w1 ⟨rfl, hb⟩
    have A1 := Lib.hid (A0.out.then_ hb)
    have B1 := Lib.hid (below_then B0.out hb)
    clear hb A0 B0 CE HR
    go_wp2_with fail
    refine (CY.out _ B1.out).mono ?_
    rintro e w2 ⟨v, rfl, p1, q1, r1, p2, q2, r2, rfl, k1, k2, hcal, hb⟩
    have A2 := Lib.hid ((A1.out.then_ hb).alloc (calAO row p1 p2 q1 r1 q2 r2))
    have B2 := Lib.hid (below_new (below_then B1.out hb) (calAO row p1 p2 q1 r1 q2 r2))
    clear hb A1 B1 CY hcal k1 k2
    go_upto_region 5 with fail
    generalize World.alloc w2 _ = W2 at A2 B2 ⊢
    have a1 := A2.out
    have z0 := a1.cell 0; have z1 := a1.cell 1; have z2 := a1.cell 2; have z3 := a1.cell 3; have z4 := a1.cell 4; simp at z0 z1 z2 z3 z4
    have f0 := a1.frozen 0; have f1 := a1.frozen 1; have f2 := a1.frozen 2; have f3 := a1.frozen 3; have f4 := a1.frozen 4
    have hl := a1.lt
    clear a1
    go_wp2_with fail
    have AF := A2.out.store5 (.string ⟨#[]⟩) (.int .i64 0) (.int .i64 0) (.slice none 0 0) (.slice none 0 0)
    have BF := Lib.hid (below_setN5 B2.out (.string ⟨#[]⟩) (.int .i64 0) (.int .i64 0) (.slice none 0 0) (.slice none 0 0))
    clear f0 f1 f2 f3 f4 z0 z1 z2 z3 z4
    generalize World.setCell (World.setCell _ _ _) _ _ = W3 at AF BF ⊢
    have y0 := AF.cell 0; have y1 := AF.cell 1; have y2 := AF.cell 2; have y3 := AF.cell 3; have y4 := AF.cell 4; simp at y0 y1 y2 y3 y4
    exact bodyPost_ret (v := .tuple #[zCalV, .int .i64 1]) (by simp [results, Tryz.results44, go_sem, y0, y1, y2, y3, y4]) rfl ⟨rfl, BF.out⟩
set_option maxHeartbeats 4000000 in
theorem era_open_ok (w : World) (mx : Int) (hmx : w.cell? ⟨0, 0, none⟩ = some (.int .i64 mx)) (hlv : Lvl w) (hsg : Sgn w) (a : Option Addr) (n c : Nat) (xs : List (ByteArray × Int)) (h : Reigns w w.heap.size a n xs) (nl : List UInt8) (mode : Int) (hE : eraErr xs nl mode = 0) (row : List UInt8) (hro : rowOf nl = some row) :
    Calls Tryz.prog 44 #[.slice a n c, .string ⟨nl.toArray⟩, .int .i64 mode] w fun e w' => ∃ v, e = .returned (.tuple #[v, .int .i64 0]) ∧ CalRet row w v w' := by
  obtain ⟨hr, _, hmode⟩ := eraErr_zero hE
  have hrow : row ∈ rowsL := List.mem_of_find?_eq_some hro
  have hgm := World.block_lt_of_cell? _ _ hmx
  have CX := fun (W : World) (hW : Below w.heap.size w W) => cat_Calendar nl W mx ((hW.cell (p := ⟨0, 0, none⟩) hgm).trans hmx) (hlv.below hW) (hsg.below hW)
  unfold CalPost at CX
  rw [hro] at CX
  have CY := Lib.hid CX
  have CE := Lib.hid (fun (W : World) (hW : Below w.heap.size w W) => era_Check W a n c xs ((h.below hW (Nat.le_refl _)).more hW.size))
  rw [hr] at CE
  have A0 := Lib.hid (At.new w zCalO)
  have B0 := Lib.hid (below_new (Below.refl w.heap.size w) zCalO)
  clear hgm hmx hlv hsg h CX hE hr hro
  rcases hmode with rfl | rfl
  all_goals
    go_enter Tryz.func44, Tryz.ntmps44
    go_wp2_with fail
    refine (CE.out _ B0.out).mono ?_
    rintro e w1 ⟨rfl, hb⟩
    have A1 := Lib.hid (A0.out.then_ hb)
    have B1 := Lib.hid (below_then B0.out hb)
    clear hb A0 B0 CE
    go_wp2_with fail
    refine (CY.out _ B1.out).mono ?_
    rintro e w2 ⟨v, rfl, p1, q1, r1, p2, q2, r2, rfl, k1, k2, hcal, hb⟩
    have o2 := At.new w2 (calAO row p1 p2 q1 r1 q2 r2)
    have A2 := Lib.hid ((A1.out.then_ hb).alloc (calAO row p1 p2 q1 r1 q2 r2))
    have B2 := Lib.hid (below_new (below_then B1.out hb) (calAO row p1 p2 q1 r1 q2 r2))
    have HC := Lib.hid (hcal.alloc (calAO row p1 p2 q1 r1 q2 r2))
    have K1 := Lib.hid k1; have K2 := Lib.hid k2
    obtain ⟨T, hT⟩ : ∃ T, T = w2.heap.size := ⟨_, rfl⟩
    rw [← hT] at o2
    clear hb A1 B1 CY hcal k1 k2
    go_upto_region 5 with fail
    rw [← hT]
    generalize World.alloc w2 _ = W2 at o2 A2 B2 HC ⊢
    clear hT
    have x0 := o2.cell 0; have x1 := o2.cell 1; have x2 := o2.cell 2; have x3 := o2.cell 3; have x4 := o2.cell 4; simp at x0 x1 x2 x3 x4
    have a1 := A2.out
    have z0 := a1.cell 0; have z1 := a1.cell 1; have z2 := a1.cell 2; have z3 := a1.cell 3; have z4 := a1.cell 4; simp at z0 z1 z2 z3 z4
    have f0 := a1.frozen 0; have f1 := a1.frozen 1; have f2 := a1.frozen 2; have f3 := a1.frozen 3; have f4 := a1.frozen 4
    have hl := a1.lt; have hl2 := o2.lt
    clear a1 o2
    go_wp2_with fail
    have AF := A2.out.store5 (.string (tkS (ruleL row).nm)) (.int .i64 (ruleL row).ep) (.int .i64 (calN row : Int)) (.slice p1 q1 r1) (.slice p2 q2 r2)
    have BF := Lib.hid (below_setN5 B2.out (.string (tkS (ruleL row).nm)) (.int .i64 (ruleL row).ep) (.int .i64 (calN row : Int)) (.slice p1 q1 r1) (.slice p2 q2 r2))
    have HF := Lib.hid (cal_far hrow A2.out zCals_s zCals_i (one_set5 W2 w.heap.size (.string (tkS (ruleL row).nm)) (.int .i64 (ruleL row).ep) (.int .i64 (calN row : Int)) (.slice p1 q1 r1) (.slice p2 q2 r2)) HC.out)
    clear f0 f1 f2 f3 f4 z0 z1 z2 z3 z4 x0 x1 x2 x3 x4 A2 B2 HC
    generalize World.setCell (World.setCell _ _ _) _ _ = W5 at AF BF HF ⊢
    have y0 := AF.cell 0; have y1 := AF.cell 1; have y2 := AF.cell 2; have y3 := AF.cell 3; have y4 := AF.cell 4; simp at y0 y1 y2 y3 y4
    exact bodyPost_ret (v := .tuple #[.agg #[.string (tkS (ruleL row).nm), .int .i64 (ruleL row).ep, .int .i64 (calN row : Int), .slice p1 q1 r1, .slice p2 q2 r2], .int .i64 0]) (by simp [results, Tryz.results44, go_sem, y0, y1, y2, y3, y4]) rfl
      ⟨_, rfl, p1, q1, r1, p2, q2, r2, rfl, K1.out, K2.out, HF.out, BF.out⟩
def moreE (mode : Int) : Int := if mode = 1 then 1 else 0
set_option maxHeartbeats 1000000 in
theorem era_more (mode : Int) (w : World) (hm : mode = 1 ∨ mode = 2) : Calls Tryz.prog 45 #[.int .i64 mode] w fun e w' => e = .returned (.int .i64 (moreE mode)) ∧ w = w' := by
  rcases hm with rfl | rfl
  all_goals
    go_enter Tryz.func45, Tryz.ntmps45
    go_wp2
    go_ret
    exact ⟨rfl, rfl⟩
end Go.Proofs.YtlpbaljoanfogaaGreatDoor
