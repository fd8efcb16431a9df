/- Several texts in one: Spa1, Spa2, Spa3, Spa4. -/
import Derived.Test.YtlbjmpdonnlieaaGreatDoorMgSa
import Derived.Test.YtlbjmpdonnlieaaGreatDoorMgLb
import Derived.Deep.CutRange
import Derived.Test.YtlbjmpdonnlieaaGreatDoorMgZ
namespace Go.Proofs.YtlbjmpdonnlieaaGreatDoor
set_option linter.unusedVariables false
set_option linter.unusedSimpArgs false
set_option maxRecDepth 100000
open Go.RowKit Go.Shelf
def addOutP (M : Int) (x : Nat → Int) (D : Int) : Int × Int := if inB (-4000000) 4000000 (D + x 2) = false then (0, 3) else if instB ((D + x 2) * 86400000 + M + x 3) = false then (0, 3) else ((D + x 2) * 86400000 + M + x 3, 0)
abbrev pairA (p : Int × Int) : Value := .tuple #[.int .i64 p.1, .int .i64 p.2]
theorem okLen_in {x : Nat → Int} (h : okLen x = true) : (-10000 ≤ x 0 ∧ x 0 ≤ 10000) ∧ (-10000 ≤ x 1 ∧ x 1 ≤ 10000) ∧ (-8000000 ≤ x 2 ∧ x 2 ≤ 8000000) ∧ -345600000000000 ≤ x 3 ∧ x 3 ≤ 345600000000000 := by
  unfold okLen at h
  simp only [Bool.and_eq_true] at h
  exact ⟨inB_iff.1 h.1.1.1, inB_iff.1 h.1.1.2, inB_iff.1 h.1.2, inB_iff.1 h.2⟩
def moveOut (M : Int) (x : Nat → Int) (a ee : Int) : Int × Int := if ee ≠ 0 then (0, ee) else addOutP M x a
theorem x_cases (x : Nat → Int) : (((x 0 != 0) = false ∧ (x 1 != 0) = false) ∧ x 0 = 0 ∧ x 1 = 0) ∨ ((x 0 != 0) = true ∧ ¬ (x 0 = 0 ∧ x 1 = 0)) ∨ (((x 0 != 0) = false ∧ (x 1 != 0) = true) ∧ ¬ (x 0 = 0 ∧ x 1 = 0)) := by
  by_cases h0 : x 0 = 0
  · by_cases h1 : x 1 = 0
    · left; simp [h0, h1]
    · right; right; simp [h0, h1]
  · right; left; simp [h0]
set_option maxHeartbeats 8000000 in
theorem span_add_in (w : World) (s : ByteArray) (f : Int) (C : Nat) (a1 a2 : Option Addr) (n1 c1 n2 c2 : Nat) (ms : List Mon) (ls : List Int) (t D M a ee : Int) (x : Nat → Int) (hx : okLen x = true) (hsp : splitOut t = .tuple #[.int .i64 D, .int .i64 M, .int .i64 0]) (ht1 : -9223372036854775808 ≤ t) (ht2 : t ≤ 9223372036854775807) (m0 : 0 ≤ M) (m1 : M ≤ 86399999) (ha : ee = 0 → -4000000 ≤ a ∧ a ≤ 4000000)
    (hmv : (x 0 = 0 ∧ x 1 = 0 → a = D ∧ ee = 0) ∧ (¬ (x 0 = 0 ∧ x 1 = 0) → ∀ W, Below w.heap.size w W → Calls Tryz.prog 73 #[.agg #[.string s, .int .i64 f, .int .i64 (C : Int), .slice a1 n1 c1, .slice a2 n2 c2], .int .i64 D, .int .i64 (x 0), .int .i64 (x 1)] W fun e w' => e = .returned (.tuple #[.int .i64 a, .int .i64 ee]) ∧ Below W.heap.size W w')) :
    Calls Tryz.prog 37 #[.agg #[.string s, .int .i64 f, .int .i64 (C : Int), .slice a1 n1 c1, .slice a2 n2 c2], .int .i64 t, .agg (lenV x)] w fun e w' => e = .returned (pairA (moveOut M x a ee)) ∧ Below w.heap.size w w' := by
  obtain ⟨_, _, hx2, hx3⟩ := okLen_in hx
  have HMV := Lib.hid hmv
  have HA := Lib.hid ha
  have CS := Lib.hid (fun W => line_Split t W ht1 ht2)
  rw [hsp] at CS
  obtain ⟨po, hpo⟩ : ∃ p, p = moveOut M x a ee := ⟨_, rfl⟩
  rw [← hpo]
  have HPO := Lib.hid hpo
  clear hmv ha hsp hx hpo
  have u0 := At.new w (.cells #[.string s, .int .i64 f, .int .i64 (C : Int), .slice a1 n1 c1, .slice a2 n2 c2] 39)
  have u1 := At.new1 w (.cells #[.string s, .int .i64 f, .int .i64 (C : Int), .slice a1 n1 c1, .slice a2 n2 c2] 39) (lenO x)
  have b1 := below_new (below_new (Below.refl w.heap.size w) (.cells #[.string s, .int .i64 f, .int .i64 (C : Int), .slice a1 n1 c1, .slice a2 n2 c2] 39)) (lenO x)
  have u2 := At.alloc u0 (lenO x)
  go_enter Tryz.func37, Tryz.ntmps37
  go_upto_region 1 with fail
  obtain ⟨T, hT⟩ : ∃ T, T = w.heap.size := ⟨_, rfl⟩
  rw [← hT] at u1 u2 ⊢
  generalize World.alloc (World.alloc w _) _ = W0 at u1 u2 b1 ⊢
  clear hT u0
  go_upto_region 4 with (go_at_call 44; refine (CS.out _).mono ?_; rintro e w' ⟨rfl, ⟨nd, rfl⟩⟩)
  have k0 := u2.drewN nd
  have k1' := u1.drewN nd
  have b2 := below_drewN b1 nd
  generalize World.drewN W0 nd = W1 at k0 k1' b2 ⊢
  clear u2 u1 b1
  have C0 := Lib.hid k0; have C1 := Lib.hid k1'; have B2 := Lib.hid b2
  have d0 := k0.cell 0; have d1 := k0.cell 1; have d2 := k0.cell 2; have d3 := k0.cell 3; have d4 := k0.cell 4; simp at d0 d1 d2 d3 d4
  have y0 := k1'.cell 0; have y1 := k1'.cell 1; have y2 := k1'.cell 2; have y3 := k1'.cell 3; simp at y0 y1 y2 y3
  clear k0 k1' b2 CS
  by_cases hee : ee = 0
  case neg =>
    have hp := Lib.hid (HPO.out.trans (if_pos hee))
    have hnz : ¬ (x 0 = 0 ∧ x 1 = 0) := fun h => hee (HMV.out.1 h).2
    have CL := Lib.hid (HMV.out.2 hnz W1 B2.out)
    have hee' : (ee != 0) = true := by simpa using hee
    clear hee HMV HA HPO
    rcases x_cases x with ⟨-, h⟩ | ⟨h, -⟩ | ⟨⟨h, h'⟩, -⟩
    · exact absurd h hnz
    all_goals
      clear hnz
      go_wp2_with (go_at_call 73; refine CL.out.mono ?_; rintro e w' ⟨rfl, hb⟩)
      go_ret2
      exact ⟨by rw [hp.out]; rfl, below_then B2.out hb⟩
  subst hee
  obtain ⟨ha1, ha2⟩ := HA.out rfl
  have HP2 := Lib.hid (HPO.out.trans (if_neg (by simp)))
  clear HA HPO
  obtain ⟨zz, hzz⟩ : ∃ z, z = !decide (x 0 = 0 ∧ x 1 = 0) := ⟨_, rfl⟩
  go_cut [28] from 21 (fun u wx => u = .bool zz ∧ W1 = wx)
  case first =>
    rcases x_cases x with ⟨⟨h, h'⟩, hz⟩ | ⟨h, hnz⟩ | ⟨⟨h, h'⟩, hnz⟩
    · have hb := Lib.hid (show zz = false by rw [hzz, decide_eq_true hz]; rfl)
      clear hz hzz
      go_wp2_with fail
      go_meet
      case rel => exact ⟨by rw [hb.out], rfl⟩
    all_goals
      have hb := Lib.hid (show zz = true by rw [hzz, decide_eq_false hnz]; rfl)
      clear hnz hzz
      go_wp2_with fail
      go_meet
      case rel => exact ⟨by rw [hb.out], rfl⟩
  case rest =>
  obtain ⟨rfl, rfl⟩ := hcut
  have HZ := Lib.hid hzz; clear hzz
  go_upto_if 28 with fail
  go_cut [8, 10] from 29 (fun u v wx => u = .int .i64 a ∧ v = .int .i64 0 ∧ At wx (T + 1) (lenO x) ∧ Below w.heap.size w wx)
  case first =>
    cases zz with
    | false =>
      have hD := Lib.hid ((HMV.out.1 (by have := HZ.out; simpa using this)).1)
      clear HZ HMV
      go_wp2_with fail
      go_meet
      case rel => exact ⟨by rw [hD.out], rfl, C1.out, B2.out⟩
    | true =>
      have CL := Lib.hid (HMV.out.2 (fun h => by have := HZ.out; rw [decide_eq_true h] at this; cases this) W1 B2.out)
      clear HZ HMV
      go_wp2_with (go_at_call 73; refine CL.out.mono ?_; rintro e w' ⟨rfl, hb⟩)
      go_meet
      case rel => exact ⟨rfl, rfl, C1.out.then_ hb, below_then B2.out hb⟩
  case rest =>
  obtain ⟨rfl, rfl, k1', b3⟩ := hcut
  clear C0 C1 B2 d0 d1 d2 d3 d4 y0 y1 y2 y3 HMV
  have B3 := Lib.hid b3
  have y0 := k1'.cell 0; have y1 := k1'.cell 1; have y2 := k1'.cell 2; have y3 := k1'.cell 3; simp at y0 y1 y2 y3
  clear k1' b3
  have HQ := Lib.hid (show po = if inB (-4000000) 4000000 (a + x 2) = false then (0, 3) else if instB ((a + x 2) * 86400000 + M + x 3) = false then (0, 3) else ((a + x 2) * 86400000 + M + x 3, 0) from HP2.out)
  clear HP2
  generalize x 2 = X2 at *
  generalize x 3 = X3 at *
  rcases inB_cases (-4000000) 4000000 (a + X2) with ⟨hd, d1, d2⟩ | ⟨hd, hd'⟩
  case inr =>
    have hp := Lib.hid (HQ.out.trans (if_pos hd))
    clear hd' HQ
    go_wp2_with (go_at_call 74; refine (line_Is _ _).mono ?_; rw [hd]; rintro e w' ⟨rfl, rfl⟩)
    go_ret2
    exact ⟨by rw [hp.out]; rfl, B3.out⟩
  have hq2 := Lib.hid (HQ.out.trans (if_neg (by rw [hd]; simp)))
  clear HQ
  have CI := Lib.hid (fun W => line_IsInstant ((a + X2) * 86400000 + M + X3) W (by omega) (by omega))
  cases hi : instB ((a + X2) * 86400000 + M + X3) with
  | false =>
    have hp := Lib.hid (hq2.out.trans (if_pos hi))
    exact q45
  | true =>
    have hp := Lib.hid (hq2.out.trans (if_neg (by rw [hi]; simp)))
    exact q45
set_option maxHeartbeats 8000000 in
theorem ref_LengthAdd_in (w : World) (s : ByteArray) (f : Int) (C : Nat) (a1 a2 : Option Addr) (n1 c1 n2 c2 : Nat) (ms : List Mon) (ls : List Int) (g : Nat) (t D M a ee : Int) (x : Nat → Int) (hx : okLen x = true) (hin : inB (-4000000) 4000000 (t / 86400000) = true) (hD : D = t / 86400000) (hM : M = t - D * 86400000) (ht1 : -9223372036854775808 ≤ t) (ht2 : t ≤ 9223372036854775807) (m0 : 0 ≤ M) (m1 : M ≤ 86399999) (ha : ee = 0 → -4000000 ≤ a ∧ a ≤ 4000000)
    (hmv : (x 0 = 0 ∧ x 1 = 0 → a = D ∧ ee = 0) ∧ (¬ (x 0 = 0 ∧ x 1 = 0) → ∀ W, Below w.heap.size w W → Calls Tryz.prog 42 #[.agg #[.string s, .int .i64 f, .int .i64 (C : Int), .slice a1 n1 c1, .slice a2 n2 c2, .slice (some ⟨g, 0, none⟩) C C, .int .i64 (shortOf ms), .int .i64 (longOf ms), .int .i64 (daysTo (shortOf ms) (longOf ms) ls (C : Int))], .int .i64 D, .int .i64 (x 0), .int .i64 (x 1)] W fun e w' => e = .returned (.tuple #[.int .i64 a, .int .i64 ee]) ∧ Below W.heap.size W w')) :
    Calls Tryz.prog 18 #[.agg #[.string s, .int .i64 f, .int .i64 (C : Int), .slice a1 n1 c1, .slice a2 n2 c2, .slice (some ⟨g, 0, none⟩) C C, .int .i64 (shortOf ms), .int .i64 (longOf ms), .int .i64 (daysTo (shortOf ms) (longOf ms) ls (C : Int))], .int .i64 t, .agg (lenV x)] w fun e w' => e = .returned (pairA (moveOut M x a ee)) ∧ Below w.heap.size w w' := by
  obtain ⟨_, _, hx2, hx3⟩ := okLen_in hx
  have HMV := Lib.hid hmv
  have HA := Lib.hid ha
  have CI0 := Lib.hid (fun W => ref_Instant t W ht1 ht2)
  rw [hin] at CI0
  have CF := Lib.hid (fun W => ref_Floor t 86400000 W ht1 ht2 (by omega) (by omega))
  rw [← hD] at CF
  have hdb : -4000000 ≤ D ∧ D ≤ 4000000 := by rw [hD]; exact inB_iff.1 hin
  obtain ⟨hdb1, hdb2⟩ := hdb
  have hMw : t - D * 86400000 = M := hM.symm
  obtain ⟨po, hpo⟩ : ∃ p, p = moveOut M x a ee := ⟨_, rfl⟩
  rw [← hpo]
  have HPO := Lib.hid hpo
  clear hmv ha hin hD hM hx hpo
  have u0 := At.new w (.cells #[.string s, .int .i64 f, .int .i64 (C : Int), .slice a1 n1 c1, .slice a2 n2 c2, .slice (some ⟨g, 0, none⟩) C C, .int .i64 (shortOf ms), .int .i64 (longOf ms), .int .i64 (daysTo (shortOf ms) (longOf ms) ls (C : Int))] 43)
  have u1 := At.new1 w (.cells #[.string s, .int .i64 f, .int .i64 (C : Int), .slice a1 n1 c1, .slice a2 n2 c2, .slice (some ⟨g, 0, none⟩) C C, .int .i64 (shortOf ms), .int .i64 (longOf ms), .int .i64 (daysTo (shortOf ms) (longOf ms) ls (C : Int))] 43) (lenO x)
  have b1 := below_new (below_new (Below.refl w.heap.size w) (.cells #[.string s, .int .i64 f, .int .i64 (C : Int), .slice a1 n1 c1, .slice a2 n2 c2, .slice (some ⟨g, 0, none⟩) C C, .int .i64 (shortOf ms), .int .i64 (longOf ms), .int .i64 (daysTo (shortOf ms) (longOf ms) ls (C : Int))] 43)) (lenO x)
  have u2 := At.alloc u0 (lenO x)
  go_enter Tryz.func18, Tryz.ntmps18
  go_upto_region 1 with fail
  obtain ⟨T, hT⟩ : ∃ T, T = w.heap.size := ⟨_, rfl⟩
  rw [← hT] at u1 u2 ⊢
  generalize World.alloc (World.alloc w _) _ = W0 at u1 u2 b1 ⊢
  clear hT u0
  go_upto_region 5 with (first | (go_at_call 20; refine (CI0.out _).mono ?_; rintro e w' ⟨rfl, rfl⟩) | (go_at_call 22; refine (CF.out _).mono ?_; rintro e w' ⟨rfl, rfl⟩))
  clear hMw
  have k0 := u2; have k1' := u1; have b2 := b1
  clear u2 u1 b1 CI0 CF
  have Wxe : True := trivial
  have C0 := Lib.hid k0; have C1 := Lib.hid k1'; have B2 := Lib.hid b2
  have d0 := k0.cell 0; have d1 := k0.cell 1; have d2 := k0.cell 2; have d3 := k0.cell 3; have d4 := k0.cell 4; have d5 := k0.cell 5; have d6 := k0.cell 6; have d7 := k0.cell 7; have d8 := k0.cell 8; simp at d0 d1 d2 d3 d4 d5 d6 d7 d8
  have y0 := k1'.cell 0; have y1 := k1'.cell 1; have y2 := k1'.cell 2; have y3 := k1'.cell 3; simp at y0 y1 y2 y3
  clear k0 k1' b2
  by_cases hee : ee = 0
  case neg =>
    have hp := Lib.hid (HPO.out.trans (if_pos hee))
    have hnz : ¬ (x 0 = 0 ∧ x 1 = 0) := fun h => hee (HMV.out.1 h).2
    have CL := Lib.hid (HMV.out.2 hnz W0 B2.out)
    have hee' : (ee != 0) = true := by simpa using hee
    clear hee HMV HA HPO
    rcases x_cases x with ⟨-, h⟩ | ⟨h, -⟩ | ⟨⟨h, h'⟩, -⟩
    · exact absurd h hnz
    all_goals
      clear hnz
      go_wp2_with (go_at_call 42; refine CL.out.mono ?_; rintro e w' ⟨rfl, hb⟩)
      go_ret2
      exact ⟨by rw [hp.out]; rfl, below_then B2.out hb⟩
  subst hee
  obtain ⟨ha1, ha2⟩ := HA.out rfl
  have HP2 := Lib.hid (HPO.out.trans (if_neg (by simp)))
  clear HA HPO
  obtain ⟨zz, hzz⟩ : ∃ z, z = !decide (x 0 = 0 ∧ x 1 = 0) := ⟨_, rfl⟩
  go_cut [28] from 21 (fun u wx => u = .bool zz ∧ W0 = wx)
  case first =>
    rcases x_cases x with ⟨⟨h, h'⟩, hz⟩ | ⟨h, hnz⟩ | ⟨⟨h, h'⟩, hnz⟩
    · have hb := Lib.hid (show zz = false by rw [hzz, decide_eq_true hz]; rfl)
      clear hz hzz
      go_wp2_with fail
      go_meet
      case rel => exact ⟨by rw [hb.out], rfl⟩
    all_goals
      have hb := Lib.hid (show zz = true by rw [hzz, decide_eq_false hnz]; rfl)
      clear hnz hzz
      go_wp2_with fail
      go_meet
      case rel => exact ⟨by rw [hb.out], rfl⟩
  case rest =>
  obtain ⟨rfl, rfl⟩ := hcut
  have HZ := Lib.hid hzz; clear hzz
  go_upto_if 28 with fail
  go_cut [8] from 29 (fun u wx => u = .int .i64 a ∧ At wx (T + 1) (lenO x) ∧ Below w.heap.size w wx)
  case first =>
    cases zz with
    | false =>
      have hD := Lib.hid ((HMV.out.1 (by have := HZ.out; simpa using this)).1)
      clear HZ HMV
      go_wp2_with fail
      go_meet
      case rel => exact ⟨by rw [hD.out], C1.out, B2.out⟩
    | true =>
      have CL := Lib.hid (HMV.out.2 (fun h => by have := HZ.out; rw [decide_eq_true h] at this; cases this) W0 B2.out)
      clear HZ HMV
      go_wp2_with (go_at_call 42; refine CL.out.mono ?_; rintro e w' ⟨rfl, hb⟩)
      go_meet
      case rel => exact ⟨rfl, C1.out.then_ hb, below_then B2.out hb⟩
  case rest =>
  obtain ⟨rfl, k1', b3⟩ := hcut
  clear C0 C1 B2 d0 d1 d2 d3 d4 d5 d6 d7 d8 y0 y1 y2 y3 HMV
  have B3 := Lib.hid b3
  have y0 := k1'.cell 0; have y1 := k1'.cell 1; have y2 := k1'.cell 2; have y3 := k1'.cell 3; simp at y0 y1 y2 y3
  clear k1' b3
  have HQ := Lib.hid (show po = if inB (-4000000) 4000000 (a + x 2) = false then (0, 3) else if instB ((a + x 2) * 86400000 + M + x 3) = false then (0, 3) else ((a + x 2) * 86400000 + M + x 3, 0) from HP2.out)
  clear HP2
  generalize x 2 = X2 at *
  generalize x 3 = X3 at *
  rcases inB_cases (-4000000) 4000000 (a + X2) with ⟨hd, d1, d2⟩ | ⟨hd, hd'⟩
  case inr =>
    have hp := Lib.hid (HQ.out.trans (if_pos hd))
    clear hd' HQ
    go_wp2_with (go_at_call 28; refine (ref_Day _ _).mono ?_; rw [hd]; rintro e w' ⟨rfl, rfl⟩)
    go_ret2
    exact ⟨by rw [hp.out]; rfl, B3.out⟩
  have hq2 := Lib.hid (HQ.out.trans (if_neg (by rw [hd]; simp)))
  clear HQ
  have CI := Lib.hid (fun W => ref_Instant ((a + X2) * 86400000 + M + X3) W (by omega) (by omega))
  cases hi : instB ((a + X2) * 86400000 + M + X3) with
  | false =>
    have hp := Lib.hid (hq2.out.trans (if_pos hi))
    have hi' : inB (-4000000) 4000000 (((a + X2) * 86400000 + M + X3) / 86400000) = false := hi
    exact q46
  | true =>
    have hp := Lib.hid (hq2.out.trans (if_neg (by rw [hi]; simp)))
    have hi' : inB (-4000000) 4000000 (((a + X2) * 86400000 + M + X3) / 86400000) = true := hi
    exact q46
theorem span_add_out (w : World) (s : ByteArray) (f : Int) (C : Nat) (a1 a2 : Option Addr) (n1 c1 n2 c2 : Nat) (ms : List Mon) (ls : List Int) (t : Int) (x : Nat → Int) (hsp : splitOut t = .tuple #[.int .i64 0, .int .i64 0, .int .i64 3]) (ht1 : -9223372036854775808 ≤ t) (ht2 : t ≤ 9223372036854775807) :
    Calls Tryz.prog 37 #[.agg #[.string s, .int .i64 f, .int .i64 (C : Int), .slice a1 n1 c1, .slice a2 n2 c2], .int .i64 t, .agg (lenV x)] w fun e w' => e = .returned (pairA (0, 3)) ∧ Below w.heap.size w w' := by
  have CS := Lib.hid (fun W => line_Split t W ht1 ht2)
  rw [hsp] at CS
  clear hsp
  go_enter Tryz.func37, Tryz.ntmps37
  go_wp2_with (go_at_call 44; refine (CS.out _).mono ?_; rintro e w' ⟨rfl, ⟨nd, rfl⟩⟩)
  go_ret2
  exact ⟨rfl, by exact bl⟩
theorem ref_LengthAdd_out (w : World) (s : ByteArray) (f : Int) (C : Nat) (a1 a2 : Option Addr) (n1 c1 n2 c2 : Nat) (ms : List Mon) (ls : List Int) (g : Nat) (t : Int) (x : Nat → Int) (hin : inB (-4000000) 4000000 (t / 86400000) = false) (ht1 : -9223372036854775808 ≤ t) (ht2 : t ≤ 9223372036854775807) :
    Calls Tryz.prog 18 #[.agg #[.string s, .int .i64 f, .int .i64 (C : Int), .slice a1 n1 c1, .slice a2 n2 c2, .slice (some ⟨g, 0, none⟩) C C, .int .i64 (shortOf ms), .int .i64 (longOf ms), .int .i64 (daysTo (shortOf ms) (longOf ms) ls (C : Int))], .int .i64 t, .agg (lenV x)] w fun e w' => e = .returned (pairA (0, 3)) ∧ Below w.heap.size w w' := by
  have CI0 := Lib.hid (fun W => ref_Instant t W ht1 ht2)
  rw [hin] at CI0
  clear hin
  go_enter Tryz.func18, Tryz.ntmps18
  go_wp2_with (go_at_call 20; refine (CI0.out _).mono ?_; rintro e w' ⟨rfl, rfl⟩)
  go_ret2
  exact ⟨rfl, by exact bl⟩
abbrev rowCal (row : List UInt8) (a1 a2 : Option Addr) (n1 c1 n2 c2 : Nat) : Array Value := #[.string (tkS (ruleL row).nm), .int .i64 (ruleL row).ep, .int .i64 (calN row : Int), .slice a1 n1 c1, .slice a2 n2 c2]
abbrev rowYears (row : List UInt8) (g : Nat) (a1 a2 : Option Addr) (n1 c1 n2 c2 : Nat) : Array Value := #[.string (tkS (ruleL row).nm), .int .i64 (ruleL row).ep, .int .i64 (calN row : Int), .slice a1 n1 c1, .slice a2 n2 c2, .slice (some ⟨g, 0, none⟩) (calN row) (calN row), .int .i64 (shortOf (msL row)), .int .i64 (longOf (msL row)), .int .i64 (daysTo (shortOf (msL row)) (longOf (msL row)) (lsL row) (calN row : Int))]
def AddC (row : List UInt8) (t : Int) (x : Nat → Int) (p : Int × Int) : Prop := ∀ (w : World) (a1 a2 : Option Addr) (n1 c1 n2 c2 : Nat), n1 ≤ c1 → CalAt w a1 a2 n1 n2 (msL row) (lsL row) → Calls Tryz.prog 37 #[.agg (rowCal row a1 a2 n1 c1 n2 c2), .int .i64 t, .agg (lenV x)] w fun e w' => e = .returned (pairA p) ∧ Below w.heap.size w w'
def AddY (row : List UInt8) (t : Int) (x : Nat → Int) (p : Int × Int) : Prop := ∀ (w : World) (g : Nat) (a1 a2 : Option Addr) (n1 c1 n2 c2 : Nat), MarksAt w g (calN row) (lsL row) → CalAt w a1 a2 n1 n2 (msL row) (lsL row) → Calls Tryz.prog 18 #[.agg (rowYears row g a1 a2 n1 c1 n2 c2), .int .i64 t, .agg (lenV x)] w fun e w' => e = .returned (pairA p) ∧ Below w.heap.size w w'
theorem split_in {t : Int} (h : inB (-4000000) 4000000 (t / 86400000) = true) : splitOut t = .tuple #[.int .i64 (t / 86400000), .int .i64 (t % 86400000), .int .i64 0] := if_pos (inB_iff.1 h)
theorem split_out {t : Int} (h : inB (-4000000) 4000000 (t / 86400000) = false) : splitOut t = .tuple #[.int .i64 0, .int .i64 0, .int .i64 3] := if_neg (fun q => by rw [inB_iff.2 q] at h; cases h)
theorem add_both {row : List UInt8} (hrow : row ∈ rowsL) (t : Int) (ht1 : -9223372036854775808 ≤ t) (ht2 : t ≤ 9223372036854775807) (x : Nat → Int) (hx : okLen x = true) : ∃ p, AddC row t x p ∧ AddY row t x p := by
  cases hin : inB (-4000000) 4000000 (t / 86400000) with
  | false => exact ⟨(0, 3), fun w a1 a2 n1 c1 n2 c2 _ _ => span_add_out w _ _ _ a1 a2 n1 c1 n2 c2 [] [] t x (split_out hin) ht1 ht2, fun w g a1 a2 n1 c1 n2 c2 _ _ => ref_LengthAdd_out w _ _ _ a1 a2 n1 c1 n2 c2 (msL row) (lsL row) g t x hin ht1 ht2⟩
  | true =>
    have hsp := split_in hin
    by_cases hz : x 0 = 0 ∧ x 1 = 0
    · have hb := inB_iff.1 hin
      refine ⟨moveOut (t % 86400000) x (t / 86400000) 0, fun w a1 a2 n1 c1 n2 c2 k1 h => ?_, fun w g a1 a2 n1 c1 n2 c2 hg h => ?_⟩
      · exact span_add_in w _ _ _ a1 a2 n1 c1 n2 c2 (msL row) (lsL row) t (t / 86400000) (t % 86400000) (t / 86400000) 0 x hx hsp ht1 ht2 (by omega) (by omega) (fun _ => hb) ⟨fun _ => ⟨rfl, rfl⟩, fun h => absurd hz h⟩
      · exact ref_LengthAdd_in w _ _ _ a1 a2 n1 c1 n2 c2 (msL row) (lsL row) g t (t / 86400000) (t % 86400000) (t / 86400000) 0 x hx hin rfl (by omega) ht1 ht2 (by omega) (by omega) (fun _ => hb) ⟨fun _ => ⟨rfl, rfl⟩, fun h => absurd hz h⟩
    · obtain ⟨a, ee, ⟨hA, hY⟩, hr⟩ := later_both (tkS_le hrow) (row_cal hrow) (t / 86400000) (x 0) (x 1)
      refine ⟨moveOut (t % 86400000) x a ee, fun w a1 a2 n1 c1 n2 c2 k1 h => ?_, fun w g a1 a2 n1 c1 n2 c2 hg h => ?_⟩
      · exact span_add_in w _ _ _ a1 a2 n1 c1 n2 c2 (msL row) (lsL row) t (t / 86400000) (t % 86400000) a ee x hx hsp ht1 ht2 (by omega) (by omega) hr ⟨fun h => absurd h hz, fun _ W hW => hA W a1 a2 n1 c1 n2 c2 k1 (h.then_ hW)⟩
      · exact ref_LengthAdd_in w _ _ _ a1 a2 n1 c1 n2 c2 (msL row) (lsL row) g t (t / 86400000) (t % 86400000) a ee x hx hin rfl (by omega) ht1 ht2 (by omega) (by omega) hr ⟨fun h => absurd h hz, fun _ W hW => hY W g a1 a2 n1 c1 n2 c2 (hg.then_ hW) (h.then_ hW)⟩
abbrev gregS : ByteArray := ⟨#[103, 114, 101, 103, 111, 114, 105, 97, 110]⟩
def gaP (ms : List Mon) (ls : List Int) (f c : Int) : Prop := nyOf (shortOf ms) (longOf ms) f c ls 1 = 1 ∧ nyOf (shortOf ms) (longOf ms) f c ls 2 = 366 ∧ findM (flag ls (placeOf c 1)) ms 30 0 = (0, 30) ∧ lenAt ms ls c (1, 1) = 28 ∧ lenAt ms ls c (1, 0) = 31 ∧ dnum ms ls f c 1 1 28 = 59 ∧ ms.length = 12
instance (ms : List Mon) (ls : List Int) (f c : Int) : Decidable (gaP ms ls f c) := by unfold gaP; exact inferInstance
def gaB : Bool := match rowOf gregS.data.toList with
  | none => false
  | some r => decide (gaP (msL r) (lsL r) (ruleL r).ep (calN r : Int))
theorem ga_b : gaB = true := by decide +kernel
theorem ga_row : ∃ r, rowOf gregS.data.toList = some r ∧ gaP (msL r) (lsL r) (ruleL r).ep (calN r : Int) := by
  have h := ga_b
  unfold gaB at h
  cases hr : rowOf gregS.data.toList with
  | none => rw [hr] at h; exact absurd h (by simp)
  | some r => rw [hr] at h; exact ⟨r, rfl, of_decide_eq_true h⟩
def litX (i : Nat) : Int := if i = 1 then 1 else 0
theorem greg_add : ∃ r, rowOf gregS.data.toList = some r ∧ AddC r 2678400000 litX (5097600000, 0) := by
  obtain ⟨r, hr, h1, h2, h3, h4, h5, h6, h7⟩ := ga_row
  have hrow := List.mem_of_find?_eq_some hr
  have ok := calOk_of (row_cal hrow)
  refine ⟨r, hr, fun w a1 a2 n1 c1 n2 c2 k1 h => ?_⟩
  have hy : InYear (msL r) (lsL r) (ruleL r).ep (calN r : Int) 1 31 := by
    unfold InYear; rw [h1, show (1 : Int) + 1 = 2 by omega, h2]; omega
  have hs1 : Seek (msL r) (lsL r) (calN r : Int) true ((1 : Int) + 0, 0) (some (1, 0)) := Seek.here (p := (1, 0)) ⟨by simp, by simp⟩ (by rw [h5]; omega)
  have hs2 : Seek (msL r) (lsL r) (calN r : Int) true (stepP (msL r).length true (1, 0)) (some (1, 1)) := by
    rw [h7, stepP_up (by omega)]
    exact Seek.here ⟨by simp, by simp⟩ (by rw [h4]; omega)
  have hg : Going (msL r) (lsL r) (calN r : Int) true true 1 ((1 : Int) + 0, 0) (some (1, 1)) := .inr ⟨(1, 0), hs1, .inr ⟨(1, 1), hs2, rfl⟩⟩
  have hlo : laterOut (msL r) (lsL r) (ruleL r).ep (calN r : Int) (some (1, 1)) 31 = .tuple #[.int .i64 59, .int .i64 0] := by
    show dayOr (dnum (msL r) (lsL r) (ruleL r).ep (calN r : Int) 1 1 (min 31 (lenAt (msL r) (lsL r) (calN r : Int) (1, 1)))) = _
    rw [h4, show min (31 : Int) 28 = 28 by omega, h6]; rfl
  have hn := h.1.len
  have key := span_add_in w (tkS (ruleL r).nm) (ruleL r).ep (calN r) a1 a2 n1 c1 n2 c2 (msL r) (lsL r) 2678400000 31 0 59 0 litX (by decide) (by rfl) (by omega) (by omega) (by omega) (by omega) (fun _ => by omega)
    ⟨fun q => absurd q.2 (by decide), fun _ W hW => by
      have hL := arith_Later_up W (tkS (ruleL r).nm) (ruleL r).ep (calN r : Int) a1 a2 n1 c1 n2 c2 (msL r) (lsL r) 31 0 1 (tkS_le hrow) k1 (h.then_ hW) (row_cal hrow) 1 0 31 1 (some (1, 1)) (by omega) (by omega) (by omega) (by omega) (by omega) (by omega) (by omega) (by omega) rfl hg
        (fun W' hW' => arith_fromDay_yes W' (tkS (ruleL r).nm) (ruleL r).ep (calN r : Int) a1 a2 n1 c1 n2 c2 (msL r) (lsL r) 31 10003 1 (place_of_year ok hy (by omega) (by omega)) (by omega) (by omega) (by omega) ok (by omega) (by omega) ((h.then_ hW).then_ hW') 0 30 (by rw [h1]; exact h3) hy)
      rw [hlo] at hL
      exact hL⟩
  exact key
theorem span_Add_bad (s : ByteArray) (t : Int) (x : Nat → Int) (hx : okLen x = false) (w : World) :
    Calls Tryz.prog 14 #[.string s, .int .i64 t, .agg (lenV x)] w fun e w' => e = .returned (pairA (0, 3)) ∧ Below w.heap.size w w' := by
  have CK := Lib.hid (fun W => span_Check x W)
  rw [hx] at CK
  have o0 := One.new w (lenO x)
  clear hx
  go_enter Tryz.func14, Tryz.ntmps14
  go_upto_region 1 with fail
  generalize World.alloc w _ = W0 at o0 ⊢
  have hq0 : Below w.heap.size w W0 := o0.2
  have o1 := o0.1
  have d0 := o1.cell 0; have d1 := o1.cell 1; have d2 := o1.cell 2; have d3 := o1.cell 3; simp at d0 d1 d2 d3
  go_wp2_with (go_at_call 35; refine (CK.out _).mono ?_; rintro e w1 ⟨rfl, hb⟩)
  go_ret2
  exact ⟨rfl, below_then hq0 hb⟩
theorem span_Add_none (s : ByteArray) (hro : rowOf s.data.toList = none) (t : Int) (x : Nat → Int) (hx : okLen x = true) (w : World) (m : Int) (hm : w.cell? ⟨1, 0, none⟩ = some (.int .i64 m)) (hlv : Lvl w) (hsg : Sgn w) :
    Calls Tryz.prog 14 #[.string s, .int .i64 t, .agg (lenV x)] w fun e w' => e = .returned (pairA (0, 5)) ∧ Below w.heap.size w w' := by
  have CK := Lib.hid (fun W => span_Check x W)
  rw [hx] at CK
  have hgm := World.block_lt_of_cell? _ _ hm
  have CC := Lib.hid (fun (W : World) (hW : Below w.heap.size w W) => show Calls Tryz.prog 36 #[.string s] W (fun e w' => e = .returned (.tuple #[zCalV, .int .i64 5]) ∧ Below W.heap.size W w') from by
    have h := cat_Calendar s.data.toList W m ((hW.cell (p := ⟨1, 0, none⟩) hgm).trans hm) (hlv.below hW) (hsg.below hW)
    rw [str_back] at h
    unfold CalPost at h
    rw [hro] at h
    exact h)
  have o0 := One.new w (lenO x)
  clear hx hm hlv hsg hgm hro
  go_enter Tryz.func14, Tryz.ntmps14
  go_upto_region 1 with fail
  generalize World.alloc w _ = W0 at o0 ⊢
  have hq0 : Below w.heap.size w W0 := o0.2
  have o1 := o0.1
  have d0 := o1.cell 0; have d1 := o1.cell 1; have d2 := o1.cell 2; have d3 := o1.cell 3; simp at d0 d1 d2 d3
  go_upto_region 4 with (go_at_call 35; refine (CK.out _).mono ?_; rintro e w1 ⟨rfl, hb⟩)
  have hq1 := below_then hq0 hb
  clear d0 d1 d2 d3 hb o1 o0
  go_wp2_with (go_at_call 36; refine (CC.out _ hq1).mono ?_; rintro e w2 ⟨rfl, hb⟩)
  go_ret2
  exact ⟨rfl, below_new (below_then hq1 hb) _⟩
set_option maxHeartbeats 2000000 in
theorem span_Add_some (s : ByteArray) {r : List UInt8} (hro : rowOf s.data.toList = some r) (t : Int) (x : Nat → Int) (hx : okLen x = true) (p : Int × Int) (hA : AddC r t x p) (w : World) (m : Int) (hm : w.cell? ⟨1, 0, none⟩ = some (.int .i64 m)) (hlv : Lvl w) (hsg : Sgn w) :
    Calls Tryz.prog 14 #[.string s, .int .i64 t, .agg (lenV x)] w fun e w' => e = .returned (pairA p) ∧ Below w.heap.size w w' := by
  have CK := Lib.hid (fun W => span_Check x W)
  rw [hx] at CK
  have hgm := World.block_lt_of_cell? _ _ hm
  have CC := Lib.hid (fun (W : World) (hW : Below w.heap.size w W) => show Calls Tryz.prog 36 #[.string s] W (fun e w' => ∃ v, e = .returned (.tuple #[v, .int .i64 0]) ∧ CalRet r W v w') from by
    have h := cat_Calendar s.data.toList W m ((hW.cell (p := ⟨1, 0, none⟩) hgm).trans hm) (hlv.below hW) (hsg.below hW)
    rw [str_back] at h
    unfold CalPost at h
    rw [hro] at h
    exact h)
  unfold AddC at hA
  have HA := Lib.hid hA
  have o0 := One.new w (lenO x)
  clear hx hm hlv hsg hgm hro hA
  go_enter Tryz.func14, Tryz.ntmps14
  go_upto_region 1 with fail
  generalize World.alloc w _ = W0 at o0 ⊢
  have hq0 : Below w.heap.size w W0 := o0.2
  have o1 := o0.1
  have d0 := o1.cell 0; have d1 := o1.cell 1; have d2 := o1.cell 2; have d3 := o1.cell 3; simp at d0 d1 d2 d3
  go_upto_region 4 with (go_at_call 35; refine (CK.out _).mono ?_; rintro e w1 ⟨rfl, hb⟩)
  have hq1 := below_then hq0 hb
  replace o1 := o1.then_ hb
  clear d0 d1 d2 d3 hb o0
  go_upto_region 5 with (go_at_call 36; refine (CC.out _ hq1).mono ?_; rintro e w2 ⟨v, rfl, a1, n1, c1, a2, n2, c2, rfl, j1, j2, hcal, hb⟩)
  have bn := below_new (Below.refl w2.heap.size w2) (.cells (rowCal r a1 a2 n1 c1 n2 c2) 39)
  have o2 := At.new w2 (.cells (rowCal r a1 a2 n1 c1 n2 c2) 39)
  have hq2 := below_then (below_then hq1 hb) bn
  replace o1 := (o1.then_ hb).then_ bn
  replace hcal := hcal.then_ bn
  clear hb hq1 bn
  generalize World.alloc w2 _ = W2 at o1 o2 hq2 hcal ⊢
  have y0 := o2.cell 0; have y1 := o2.cell 1; have y2 := o2.cell 2; have y3 := o2.cell 3; have y4 := o2.cell 4; simp at y0 y1 y2 y3 y4
  have d0 := o1.cell 0; have d1 := o1.cell 1; have d2 := o1.cell 2; have d3 := o1.cell 3; simp at d0 d1 d2 d3
  have HC := Lib.hid (HA.out W2 a1 a2 n1 c1 n2 c2 j1 hcal)
  clear HA hcal o1 o2
  go_wp2_with (go_at_call 37; refine HC.out.mono ?_; rintro e w3 ⟨rfl, hb⟩)
  go_ret2
  exact ⟨rfl, below_then hq2 hb⟩
end Go.Proofs.YtlbjmpdonnlieaaGreatDoor
