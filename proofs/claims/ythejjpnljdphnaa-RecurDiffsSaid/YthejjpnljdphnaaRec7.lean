/- Contract of the reference's RecurFits. -/
import Derived.Test.YthejjpnljdphnaaRec6
namespace Go.Proofs.Ythejjpnljdphnaa
set_option linter.unusedVariables false
set_option maxRecDepth 100000
open Go.RowKit greg

theorem lastN_rf {P0 P1 P2 P3 P4 P5 P6 P7 P8 P9 P10 P11 P12 P13 R : Prop} (h : P0 ∧ P1 ∧ P2 ∧ P3 ∧ P4 ∧ P5 ∧ P6 ∧ P7 ∧ P8 ∧ P9 ∧ P10 ∧ P11 ∧ P12 ∧ P13 ∧ R) : R := h.2.2.2.2.2.2.2.2.2.2.2.2.2.2
theorem gY_inR (x : Int) (h1 : -4000000 ≤ x) (h2 : x ≤ 4000000) : -20000 ≤ gY x ∧ gY x ≤ 20000 ∧ 1 ≤ gM x ∧ gM x ≤ 12 ∧ 1 ≤ gD x ∧ gD x ≤ mlen x ∧ mlen x ≤ 31 := by
  obtain ⟨y1, y2, y3, y4⟩ := gY_in x h1 h2
  obtain ⟨v1, v2, v3, v4⟩ := (greg_spec x).1
  exact ⟨y1, y2, y3, y4, v3, v4, (mlen_in x y3 y4).2⟩
theorem date_month (W : World) (y m d : Int) : (Instr.field 44 (.agg #[.int .i64 y, .int .i64 m, .int .i64 d]) 1).run Try.prog W = .ok (.int .i64 m) W := by kernel_rfl
set_option maxHeartbeats 8000000 in
theorem ref_RecurFits (w : World) (u ev f cn un : Int) (a1 a2 a3 : Option Addr) (n1 n2 n3 c1 c2 c3 : Nat) (ws ms ns : List Int)
    (h1 : Ints w w.heap.size a1 n1 ws) (h2 : Ints w w.heap.size a2 n2 ms) (h3 : Ints w w.heap.size a3 n3 ns) (ok : RecOk u ev f cn un ws ms ns) (x : Int) (x1 : f ≤ x) (x2 : x ≤ un) :
    Calls Try.prog 24 #[.agg #[.int .i64 u, .int .i64 ev, .int .i64 f, .int .i64 cn, .int .i64 un, .slice a1 n1 c1, .slice a2 n2 c2, .slice a3 n3 c3], .int .i64 x] w fun e w' => e = .returned (.bool (refFit u ev f ws ms ns x)) ∧ Below w.heap.size w w' := by
  obtain ⟨o1, o2, o3, o4, o5, o6, o7, o8, o9, o10, o11, o12, o13, o14⟩ := ok
  have i1 := h1.1; have i2 := h2.1; have i3 := h3.1
  have H1 := Lib.hid h1; have H2 := Lib.hid h2; have H3 := Lib.hid h3; clear h1 h2 h3
  have hin : inB f un x = true := inB_yes x1 x2
  have hx1 : -4000000 ≤ x := by omega
  have hx2 : x ≤ 4000000 := by omega
  obtain ⟨p1, p2, p3, p4, p5, p6, p7⟩ := gY_inR f o5 o6
  obtain ⟨r1, r2, r3, r4, r5, r6, r7⟩ := gY_inR x hx1 hx2
  obtain ⟨D, hD⟩ : ∃ D, D = unitOf u x (gY x) (gM x) - unitOf u f (gY f) (gM f) := ⟨_, rfl⟩
  have hD1 : -20000000 ≤ D ∧ D ≤ 20000000 := by
    have a1 := unitOf_in (u := u) hx1 hx2 r1 r2 r3 r4
    have a2 := unitOf_in (u := u) o5 o6 p1 p2 p3 p4
    omega
  obtain ⟨hD1, hD2⟩ := hD1
  obtain ⟨L, hL⟩ : ∃ L : Bool, L = (if 0 < n2 then hasB (gD x) ms || hasB (gD x - mlen x - 1) ms else if 0 < n1 then true else if u = 2 then ((x - 1) % 7) == ((f - 1) % 7) else if u = 3 then gD x == gD f else if u = 4 then (gD x == gD f) && (decide (0 < n3) || (gM x == gM f)) else true) := ⟨_, rfl⟩
  obtain ⟨hN, hhN⟩ : ∃ b, b = hasB (gM x) ns := ⟨_, rfl⟩
  obtain ⟨hW, hhW⟩ : ∃ b, b = hasB ((x - 1) % 7) ws := ⟨_, rfl⟩
  obtain ⟨E, hE⟩ : ∃ E, E = refFit u ev f ws ms ns x := ⟨_, rfl⟩
  rw [← hE]
  have hRF : E = (decide (D % ev = 0) && (!(decide (0 < n3) && !hN) && (!(decide (0 < n1) && !hW) && L))) := by rw [hE, hL, hD, hhN, hhW, ← i1, ← i2, ← i3]; rfl
  have RF := Lib.hid hRF; have HL := Lib.hid hL; have HN := Lib.hid hhN; have HW := Lib.hid hhW
  have HD := Lib.hid hD
  clear hRF hL hhN hhW hE
  go_enter Try.func24, Try.ntmps24
  go_wp2_with fail
  have t0 := At.new w (.cells #[.int .i64 u, .int .i64 ev, .int .i64 f, .int .i64 cn, .int .i64 un, .slice a1 n1 c1, .slice a2 n2 c2, .slice a3 n3 c3] 24)
  have b0 := below_new (Below.refl w.heap.size w) (.cells #[.int .i64 u, .int .i64 ev, .int .i64 f, .int .i64 cn, .int .i64 un, .slice a1 n1 c1, .slice a2 n2 c2, .slice a3 n3 c3] 24)
  generalize World.alloc w _ = V0 at t0 b0 ⊢
  have u2 : V0.cell? ⟨w.heap.size, 2, none⟩ = some (.int .i64 f) := t0.cell 2
  have u4 : V0.cell? ⟨w.heap.size, 4, none⟩ = some (.int .i64 un) := t0.cell 4
  refine (ref_In _ _ _ _).mono ?_
  rw [hin]
  rintro e w1 ⟨rfl, rfl⟩
  go_wp2_with fail
  refine (ref_Greg f V0 (by omega) (by omega)).mono ?_
  rintro e w1 ⟨rfl, hb⟩
  replace t0 := t0.then_ hb; replace b0 := below_then b0 hb
  clear hb u2 u4
  go_wp2_with fail
  refine (ref_Greg x w1 (by omega) (by omega)).mono ?_
  rintro e w2 ⟨rfl, hb⟩
  replace t0 := t0.then_ hb; replace b0 := below_then b0 hb
  clear hb
  go_upto_region 4 with fail
  have t5 := (At.new w2 (.cells #[.int .i64 (gY f), .int .i64 (gM f), .int .i64 (gD f)] 44)).alloc (.cells #[.int .i64 (gY x), .int .i64 (gM x), .int .i64 (gD x)] 44)
  have t6 := At.new1 w2 (.cells #[.int .i64 (gY f), .int .i64 (gM f), .int .i64 (gD f)] 44) (.cells #[.int .i64 (gY x), .int .i64 (gM x), .int .i64 (gD x)] 44)
  replace t0 := (t0.alloc (.cells #[.int .i64 (gY f), .int .i64 (gM f), .int .i64 (gD f)] 44)).alloc (.cells #[.int .i64 (gY x), .int .i64 (gM x), .int .i64 (gD x)] 44)
  replace b0 := below_new (below_new b0 (.cells #[.int .i64 (gY f), .int .i64 (gM f), .int .i64 (gD f)] 44)) (.cells #[.int .i64 (gY x), .int .i64 (gM x), .int .i64 (gD x)] 44)
  generalize World.alloc (World.alloc w2 _) _ = W0 at t0 t5 t6 b0 ⊢
  generalize w2.heap.size = mb at *
  have lt0 := t0.lt; have lt5 := t5.lt; have lt6 := t6.lt
  have KS : ∀ W : World, Below W0.heap.size W0 W → W.cell? ⟨w.heap.size, 0, none⟩ = some (.int .i64 u) ∧ W.cell? ⟨w.heap.size, 1, none⟩ = some (.int .i64 ev) ∧ W.cell? ⟨w.heap.size, 2, none⟩ = some (.int .i64 f) ∧ W.cell? ⟨w.heap.size, 3, none⟩ = some (.int .i64 cn) ∧ W.cell? ⟨w.heap.size, 4, none⟩ = some (.int .i64 un) ∧ W.cell? ⟨w.heap.size, 5, none⟩ = some (.slice a1 n1 c1) ∧ W.cell? ⟨w.heap.size, 6, none⟩ = some (.slice a2 n2 c2) ∧ W.cell? ⟨w.heap.size, 7, none⟩ = some (.slice a3 n3 c3) ∧ W.cell? ⟨mb, 0, none⟩ = some (.int .i64 (gY f)) ∧ W.cell? ⟨mb, 1, none⟩ = some (.int .i64 (gM f)) ∧ W.cell? ⟨mb, 2, none⟩ = some (.int .i64 (gD f)) ∧ W.cell? ⟨(mb + 1), 0, none⟩ = some (.int .i64 (gY x)) ∧ W.cell? ⟨(mb + 1), 1, none⟩ = some (.int .i64 (gM x)) ∧ W.cell? ⟨(mb + 1), 2, none⟩ = some (.int .i64 (gD x)) ∧ Below W0.heap.size W0 W := fun W hb => by
    have q0 := t0.then_ hb; have q5 := t5.then_ hb; have q6 := t6.then_ hb
    exact ⟨q0.cell 0, q0.cell 1, q0.cell 2, q0.cell 3, q0.cell 4, q0.cell 5, q0.cell 6, q0.cell 7, q5.cell 0, q5.cell 1, q5.cell 2, q6.cell 0, q6.cell 1, q6.cell 2, hb⟩
  have KW := Lib.hid KS; clear KS
  have KA := Lib.hid (show ∀ W, Below W0.heap.size W0 W → At W w.heap.size (.cells #[.int .i64 u, .int .i64 ev, .int .i64 f, .int .i64 cn, .int .i64 un, .slice a1 n1 c1, .slice a2 n2 c2, .slice a3 n3 c3] 24) ∧ At W mb (.cells #[.int .i64 (gY f), .int .i64 (gM f), .int .i64 (gD f)] 44) ∧ At W (mb + 1) (.cells #[.int .i64 (gY x), .int .i64 (gM x), .int .i64 (gD x)] 44) from fun W hb => ⟨t0.then_ hb, t5.then_ hb, t6.then_ hb⟩)
  have B0 := Lib.hid b0
  clear t0 t5 t6 b0 hD
  have hm0 : IntKind.i64.wrap (x - f) = x - f := IntWalk.i64_in _ (by omega)
  have hm1 : IntKind.i64.wrap (x + 6) = x + 6 := IntWalk.i64_in _ (by omega)
  have hm2 : IntKind.i64.wrap (f + 6) = f + 6 := IntWalk.i64_in _ (by omega)
  have hm3 : IntKind.i64.wrap (gY x * 12) = gY x * 12 := IntWalk.i64_in _ (by omega)
  have hm4 : IntKind.i64.wrap (gY f * 12) = gY f * 12 := IntWalk.i64_in _ (by omega)
  have hm5 : IntKind.i64.wrap (gY x * 12 + gM x) = gY x * 12 + gM x := IntWalk.i64_in _ (by omega)
  have hm6 : IntKind.i64.wrap (gY f * 12 + gM f) = gY f * 12 + gM f := IntWalk.i64_in _ (by omega)
  have hm7 : IntKind.i64.wrap (gY x * 12 + gM x - (gY f * 12 + gM f)) = gY x * 12 + gM x - (gY f * 12 + gM f) := IntWalk.i64_in _ (by omega)
  have hm8 : IntKind.i64.wrap (gY x - gY f) = gY x - gY f := IntWalk.i64_in _ (by omega)
  have hm9 : IntKind.i64.wrap ((x + 6) / 7 - (f + 6) / 7) = (x + 6) / 7 - (f + 6) / 7 := IntWalk.i64_in _ (by omega)
  go_cut [7] from 22 (fun v wx => v = .int .i64 D ∧ Below W0.heap.size W0 wx)
  case first =>
    rcases (show u = 1 ∨ u = 2 ∨ u = 3 ∨ u = 4 by omega) with rfl | rfl | rfl | rfl
    · refine wp_region_held_drew (S := (fun w' => w'.cell? ⟨w.heap.size, 0, none⟩ = some (.int .i64 1) ∧ w'.cell? ⟨w.heap.size, 1, none⟩ = some (.int .i64 ev) ∧ w'.cell? ⟨w.heap.size, 2, none⟩ = some (.int .i64 f) ∧ w'.cell? ⟨w.heap.size, 3, none⟩ = some (.int .i64 cn) ∧ w'.cell? ⟨w.heap.size, 4, none⟩ = some (.int .i64 un) ∧ w'.cell? ⟨w.heap.size, 5, none⟩ = some (.slice a1 n1 c1) ∧ w'.cell? ⟨w.heap.size, 6, none⟩ = some (.slice a2 n2 c2) ∧ w'.cell? ⟨w.heap.size, 7, none⟩ = some (.slice a3 n3 c3) ∧ w'.cell? ⟨mb, 0, none⟩ = some (.int .i64 (gY f)) ∧ w'.cell? ⟨mb, 1, none⟩ = some (.int .i64 (gM f)) ∧ w'.cell? ⟨mb, 2, none⟩ = some (.int .i64 (gD f)) ∧ w'.cell? ⟨(mb + 1), 0, none⟩ = some (.int .i64 (gY x)) ∧ w'.cell? ⟨(mb + 1), 1, none⟩ = some (.int .i64 (gM x)) ∧ w'.cell? ⟨(mb + 1), 2, none⟩ = some (.int .i64 (gD x)) ∧ Below W0.heap.size W0 w')) (by kernel_rfl) ?_ (fun hHeld => ?_)
      · (try dsimp only); first | exact KW.out _ (Below.refl _ _).drew | exact KW.out _ (below_then (lastN_rf (by assumption)) (by assumption)) | exact KW.out _ (below_new (lastN_rf (by assumption)) _) | exact KW.out _ (below_new (Below.refl _ _) _).drew
      refine lex_take (i := 0) (v := ?_) rfl (by kernel_rfl) (by kernel_rfl) (by kernel_rfl) (fun _ _ _ h => h) (by rfl) ?_ (by assumption) ?_
      rotate_left
      · (intro w hSw; (try dsimp only at hSw); go_simp; try with_reducible rfl)
      try simp only [Act.put, List.setIfInBounds_toArray, List.set_cons_zero, List.set_cons_succ]
      refine lex_take (i := 1) (v := ?_) rfl (by kernel_rfl) (by kernel_rfl) (by kernel_rfl) (fun _ _ _ h => h) (by rfl) ?_ (by assumption) ?_
      rotate_left
      · (intro w hSw; (try dsimp only at hSw); go_simp; try with_reducible rfl)
      try simp only [Act.put, List.setIfInBounds_toArray, List.set_cons_zero, List.set_cons_succ]
      refine lex_take (i := 2) (v := ?_) rfl (by kernel_rfl) (by kernel_rfl) (by kernel_rfl) (fun _ _ _ h => h) (by rfl) ?_ (by assumption) ?_
      rotate_left
      · (intro w hSw; (try dsimp only at hSw); go_simp; try with_reducible rfl)
      try simp only [Act.put, List.setIfInBounds_toArray, List.set_cons_zero, List.set_cons_succ]
      refine lex_take (i := 3) (v := ?_) rfl (by kernel_rfl) (by kernel_rfl) (by kernel_rfl) (fun _ _ _ h => h) (by rfl) ?_ (by assumption) ?_
      rotate_left
      · (intro w hSw; (try dsimp only at hSw); go_simp; try with_reducible rfl)
      try simp only [Act.put, List.setIfInBounds_toArray, List.set_cons_zero, List.set_cons_succ]
      refine lex_take (i := 4) (v := ?_) rfl (by kernel_rfl) (by kernel_rfl) (by kernel_rfl) (fun _ _ _ h => h) (by rfl) ?_ (by assumption) ?_
      rotate_left
      · (intro w hSw; (try dsimp only at hSw); go_simp; try with_reducible rfl)
      try simp only [Act.put, List.setIfInBounds_toArray, List.set_cons_zero, List.set_cons_succ]
      refine lex_take (i := 5) (v := ?_) rfl (by kernel_rfl) (by kernel_rfl) (by kernel_rfl) (fun _ _ _ h => h) (by rfl) ?_ (by assumption) ?_
      rotate_left
      · (intro w hSw; (try dsimp only at hSw); go_simp; try with_reducible rfl)
      try simp only [Act.put, List.setIfInBounds_toArray, List.set_cons_zero, List.set_cons_succ]
      refine lex_take (i := 7) (v := ?_) rfl (by kernel_rfl) (by kernel_rfl) (by kernel_rfl) (fun _ _ _ h => h) (by rfl) ?_ (by assumption) ?_
      rotate_left
      · (intro w hSw; (try dsimp only at hSw); go_simp; try with_reducible rfl)
      try simp only [Act.put, List.setIfInBounds_toArray, List.set_cons_zero, List.set_cons_succ]
      refine lex_take (i := 8) (v := ?_) rfl (by kernel_rfl) (by kernel_rfl) (by kernel_rfl) (fun _ _ _ h => h) (by rfl) ?_ (by assumption) ?_
      rotate_left
      · (intro w hSw; (try dsimp only at hSw); go_simp; try with_reducible rfl)
      try simp only [Act.put, List.setIfInBounds_toArray, List.set_cons_zero, List.set_cons_succ]
      refine lex_take (i := 9) (v := ?_) rfl (by kernel_rfl) (by kernel_rfl) (by kernel_rfl) (fun _ _ _ h => h) (by rfl) ?_ (by assumption) ?_
      rotate_left
      · (intro w hSw; (try dsimp only at hSw); go_simp; try with_reducible rfl)
      try simp only [Act.put, List.setIfInBounds_toArray, List.set_cons_zero, List.set_cons_succ]
      refine lex_take (i := 12) (v := ?_) rfl (by kernel_rfl) (by kernel_rfl) (by kernel_rfl) (fun _ _ _ h => h) (by rfl) ?_ (by assumption) ?_
      rotate_left
      · (intro w hSw; (try dsimp only at hSw); go_simp; try with_reducible rfl)
      try simp only [Act.put, List.setIfInBounds_toArray, List.set_cons_zero, List.set_cons_succ]
      refine lex_take (i := 13) (v := ?_) rfl (by kernel_rfl) (by kernel_rfl) (by kernel_rfl) (fun _ _ _ h => h) (by rfl) ?_ (by assumption) ?_
      rotate_left
      · (intro w hSw; (try dsimp only at hSw); go_simp; try with_reducible rfl)
      try simp only [Act.put, List.setIfInBounds_toArray, List.set_cons_zero, List.set_cons_succ]
      refine lex_take (i := 14) (v := ?_) rfl (by kernel_rfl) (by kernel_rfl) (by kernel_rfl) (fun _ _ _ h => h) (by rfl) ?_ (by assumption) ?_
      rotate_left
      · (intro w hSw; (try dsimp only at hSw); go_simp; try with_reducible rfl)
      try simp only [Act.put, List.setIfInBounds_toArray, List.set_cons_zero, List.set_cons_succ]
      refine lex_take (i := 15) (v := ?_) rfl (by kernel_rfl) (by kernel_rfl) (by kernel_rfl) (fun _ _ _ h => h) (by rfl) ?_ (by assumption) ?_
      rotate_left
      · (intro w hSw; (try dsimp only at hSw); go_simp; try with_reducible rfl)
      try simp only [Act.put, List.setIfInBounds_toArray, List.set_cons_zero, List.set_cons_succ]
      refine lex_take (i := 16) (v := ?_) rfl (by kernel_rfl) (by kernel_rfl) (by kernel_rfl) (fun _ _ _ h => h) (by rfl) ?_ (by assumption) ?_
      rotate_left
      · (intro w hSw; (try dsimp only at hSw); go_simp; try with_reducible rfl)
      try simp only [Act.put, List.setIfInBounds_toArray, List.set_cons_zero, List.set_cons_succ]
      refine lex_take (i := 17) (v := ?_) rfl (by kernel_rfl) (by kernel_rfl) (by kernel_rfl) (fun _ _ _ h => h) (by rfl) ?_ (by assumption) ?_
      rotate_left
      · (intro w hSw; (try dsimp only at hSw); go_simp; try with_reducible rfl)
      try simp only [Act.put, List.setIfInBounds_toArray, List.set_cons_zero, List.set_cons_succ]
      refine lex_take (i := 18) (v := ?_) rfl (by kernel_rfl) (by kernel_rfl) (by kernel_rfl) (fun _ _ _ h => h) (by rfl) ?_ (by assumption) ?_
      rotate_left
      · (intro w hSw; (try dsimp only at hSw); go_simp; try with_reducible rfl)
      try simp only [Act.put, List.setIfInBounds_toArray, List.set_cons_zero, List.set_cons_succ]
      refine lex_take (i := 19) (v := ?_) rfl (by kernel_rfl) (by kernel_rfl) (by kernel_rfl) (fun _ _ _ h => h) (by rfl) ?_ (by assumption) ?_
      rotate_left
      · (intro w hSw; (try dsimp only at hSw); go_simp; try with_reducible rfl)
      try simp only [Act.put, List.setIfInBounds_toArray, List.set_cons_zero, List.set_cons_succ]
      refine lex_take (i := 20) (v := ?_) rfl (by kernel_rfl) (by kernel_rfl) (by kernel_rfl) (fun _ _ _ h => h) (by rfl) ?_ (by assumption) ?_
      rotate_left
      · (intro w hSw; (try dsimp only at hSw); go_simp; try with_reducible rfl)
      try simp only [Act.put, List.setIfInBounds_toArray, List.set_cons_zero, List.set_cons_succ]
      refine lex_take (i := 21) (v := ?_) rfl (by kernel_rfl) (by kernel_rfl) (by kernel_rfl) (fun _ _ _ h => h) (by rfl) ?_ (by assumption) ?_
      rotate_left
      · (intro w hSw; (try dsimp only at hSw); go_simp; try with_reducible rfl)
      try simp only [Act.put, List.setIfInBounds_toArray, List.set_cons_zero, List.set_cons_succ]
      refine lex_take (i := 22) (v := ?_) rfl (by kernel_rfl) (by kernel_rfl) (by kernel_rfl) (fun _ _ _ h => h) (by rfl) ?_ (by assumption) ?_
      rotate_left
      · (intro w hSw; (try dsimp only at hSw); go_simp; try with_reducible rfl)
      try simp only [Act.put, List.setIfInBounds_toArray, List.set_cons_zero, List.set_cons_succ]
      refine lex_take (i := 23) (v := ?_) rfl (by kernel_rfl) (by kernel_rfl) (by kernel_rfl) (fun _ _ _ h => h) (by rfl) ?_ (by assumption) ?_
      rotate_left
      · (intro w hSw; (try dsimp only at hSw); go_simp; try with_reducible rfl)
      try simp only [Act.put, List.setIfInBounds_toArray, List.set_cons_zero, List.set_cons_succ]
      refine lex_take (i := 24) (v := ?_) rfl (by kernel_rfl) (by kernel_rfl) (by kernel_rfl) (fun _ _ _ h => h) (by rfl) ?_ (by assumption) ?_
      rotate_left
      · (intro w hSw; (try dsimp only at hSw); go_simp; try with_reducible rfl)
      try simp only [Act.put, List.setIfInBounds_toArray, List.set_cons_zero, List.set_cons_succ]
      refine lex_take (i := 25) (v := ?_) rfl (by kernel_rfl) (by kernel_rfl) (by kernel_rfl) (fun _ _ _ h => h) (by rfl) ?_ (by assumption) ?_
      rotate_left
      · (intro w hSw; (try dsimp only at hSw); go_simp; try with_reducible rfl)
      try simp only [Act.put, List.setIfInBounds_toArray, List.set_cons_zero, List.set_cons_succ]
      refine lex_take (i := 26) (v := ?_) rfl (by kernel_rfl) (by kernel_rfl) (by kernel_rfl) (fun _ _ _ h => h) (by rfl) ?_ (by assumption) ?_
      rotate_left
      · (intro w hSw; (try dsimp only at hSw); go_simp; try with_reducible rfl)
      try simp only [Act.put, List.setIfInBounds_toArray, List.set_cons_zero, List.set_cons_succ]
      refine lex_take (i := 27) (v := ?_) rfl (by kernel_rfl) (by kernel_rfl) (by kernel_rfl) (fun _ _ _ h => h) (by rfl) ?_ (by assumption) ?_
      rotate_left
      · (intro w hSw; (try dsimp only at hSw); go_simp; try with_reducible rfl)
      try simp only [Act.put, List.setIfInBounds_toArray, List.set_cons_zero, List.set_cons_succ]
      refine lex_take (i := 28) (v := ?_) rfl (by kernel_rfl) (by kernel_rfl) (by kernel_rfl) (fun _ _ _ h => h) (by rfl) ?_ (by assumption) ?_
      rotate_left
      · (intro w hSw; (try dsimp only at hSw); go_simp; try with_reducible rfl)
      try simp only [Act.put, List.setIfInBounds_toArray, List.set_cons_zero, List.set_cons_succ]
      refine lex_take (i := 29) (v := ?_) rfl (by kernel_rfl) (by kernel_rfl) (by kernel_rfl) (fun _ _ _ h => h) (by rfl) ?_ (by assumption) ?_
      rotate_left
      · (intro w hSw; (try dsimp only at hSw); go_simp; try with_reducible rfl)
      try simp only [Act.put, List.setIfInBounds_toArray, List.set_cons_zero, List.set_cons_succ]
      refine lex_take (i := 31) (v := ?_) rfl (by kernel_rfl) (by kernel_rfl) (by kernel_rfl) (fun _ _ _ h => h) (by rfl) ?_ (by assumption) ?_
      rotate_left
      · (intro w hSw; (try dsimp only at hSw); go_simp; try with_reducible rfl)
      try simp only [Act.put, List.setIfInBounds_toArray, List.set_cons_zero, List.set_cons_succ]
      refine lex_take (i := 32) (v := ?_) rfl (by kernel_rfl) (by kernel_rfl) (by kernel_rfl) (fun _ _ _ h => h) (by rfl) ?_ (by assumption) ?_
      rotate_left
      · (intro w hSw; (try dsimp only at hSw); go_simp; try with_reducible rfl)
      try simp only [Act.put, List.setIfInBounds_toArray, List.set_cons_zero, List.set_cons_succ]
      refine lex_step (i := 6) rfl (by kernel_rfl) (by rfl) (fun Kx hKx => ?_)
      go_simp
      go_at_call 31; (with_reducible refine (ref_Floor _ _ _ (by omega) (by omega) (by omega) (by omega)).mono ?_); rintro e w' ⟨rfl, hw⟩; subst hw
      try go_wp2_with fail
      refine hKx.out _ _ ?_ (fun hHeld => ?_)
      · (try dsimp only); first | exact KW.out _ (Below.refl _ _).drew | exact KW.out _ (below_then (lastN_rf (by assumption)) (by assumption)) | exact KW.out _ (below_new (lastN_rf (by assumption)) _) | exact KW.out _ (below_new (Below.refl _ _) _).drew
      clear hKx Kx
      try simp only [Act.put, List.setIfInBounds_toArray, List.set_cons_zero, List.set_cons_succ]
      refine lex_step (i := 10) rfl (by kernel_rfl) (by rfl) (fun Kx hKx => ?_)
      go_simp
      go_at_call 31; (with_reducible refine (ref_Floor _ _ _ (by omega) (by omega) (by omega) (by omega)).mono ?_); rintro e w' ⟨rfl, hw⟩; subst hw
      try go_wp2_with fail
      refine hKx.out _ _ ?_ (fun hHeld => ?_)
      · (try dsimp only); first | exact KW.out _ (Below.refl _ _).drew | exact KW.out _ (below_then (lastN_rf (by assumption)) (by assumption)) | exact KW.out _ (below_new (lastN_rf (by assumption)) _) | exact KW.out _ (below_new (Below.refl _ _) _).drew
      clear hKx Kx
      try simp only [Act.put, List.setIfInBounds_toArray, List.set_cons_zero, List.set_cons_succ]
      refine lex_take (i := 11) (v := ?_) rfl (by kernel_rfl) (by kernel_rfl) (by kernel_rfl) (fun _ _ _ h => h) (by rfl) ?_ (by assumption) ?_
      rotate_left
      · (intro w hSw; (try dsimp only at hSw); go_simp; try with_reducible rfl)
      try simp only [Act.put, List.setIfInBounds_toArray, List.set_cons_zero, List.set_cons_succ]
      refine lex_step (i := 30) rfl (by kernel_rfl) (by rfl) (fun Kx hKx => ?_)
      go_simp
      try go_wp2_with fail
      refine hKx.out _ _ ?_ (fun hHeld => ?_)
      · (try dsimp only); first | exact KW.out _ (Below.refl _ _).drew | exact KW.out _ (below_then (lastN_rf (by assumption)) (by assumption)) | exact KW.out _ (below_new (lastN_rf (by assumption)) _) | exact KW.out _ (below_new (Below.refl _ _) _).drew
      clear hKx Kx
      try simp only [Act.put, List.setIfInBounds_toArray, List.set_cons_zero, List.set_cons_succ]
      refine lex_take (i := 33) (v := ?_) rfl (by kernel_rfl) (by kernel_rfl) (by kernel_rfl) (fun _ _ _ h => h) (by rfl) ?_ (by assumption) ?_
      rotate_left
      · (intro w hSw; (try dsimp only at hSw); go_simp; try with_reducible rfl)
      try simp only [Act.put, List.setIfInBounds_toArray, List.set_cons_zero, List.set_cons_succ]
      refine lex_step (i := 34) rfl (by kernel_rfl) (by rfl) (fun Kx hKx => ?_)
      go_simp
      try go_wp2_with fail
      refine hKx.out _ _ ?_ (fun hHeld => ?_)
      · (try dsimp only); first | exact KW.out _ (Below.refl _ _).drew | exact KW.out _ (below_then (lastN_rf (by assumption)) (by assumption)) | exact KW.out _ (below_new (lastN_rf (by assumption)) _) | exact KW.out _ (below_new (Below.refl _ _) _).drew
      clear hKx Kx
      try simp only [Act.put, List.setIfInBounds_toArray, List.set_cons_zero, List.set_cons_succ]
      refine lex_take (i := 35) (v := ?_) rfl (by kernel_rfl) (by kernel_rfl) (by kernel_rfl) (fun _ _ _ h => h) (by rfl) ?_ (by assumption) ?_
      rotate_left
      · (intro w hSw; (try dsimp only at hSw); go_simp; try with_reducible rfl)
      try simp only [Act.put, List.setIfInBounds_toArray, List.set_cons_zero, List.set_cons_succ]
      refine wpAnyH_done (by kernel_rfl) ?_ _
      go_wp2_with fail
      go_meet
      case rel => exact ⟨by rw [HD.out]; unfold unitOf; congr 1; (try simp); (try omega), lastN_rf (by assumption)⟩
    · refine wp_region_held_drew (S := (fun w' => w'.cell? ⟨w.heap.size, 0, none⟩ = some (.int .i64 2) ∧ w'.cell? ⟨w.heap.size, 1, none⟩ = some (.int .i64 ev) ∧ w'.cell? ⟨w.heap.size, 2, none⟩ = some (.int .i64 f) ∧ w'.cell? ⟨w.heap.size, 3, none⟩ = some (.int .i64 cn) ∧ w'.cell? ⟨w.heap.size, 4, none⟩ = some (.int .i64 un) ∧ w'.cell? ⟨w.heap.size, 5, none⟩ = some (.slice a1 n1 c1) ∧ w'.cell? ⟨w.heap.size, 6, none⟩ = some (.slice a2 n2 c2) ∧ w'.cell? ⟨w.heap.size, 7, none⟩ = some (.slice a3 n3 c3) ∧ w'.cell? ⟨mb, 0, none⟩ = some (.int .i64 (gY f)) ∧ w'.cell? ⟨mb, 1, none⟩ = some (.int .i64 (gM f)) ∧ w'.cell? ⟨mb, 2, none⟩ = some (.int .i64 (gD f)) ∧ w'.cell? ⟨(mb + 1), 0, none⟩ = some (.int .i64 (gY x)) ∧ w'.cell? ⟨(mb + 1), 1, none⟩ = some (.int .i64 (gM x)) ∧ w'.cell? ⟨(mb + 1), 2, none⟩ = some (.int .i64 (gD x)) ∧ Below W0.heap.size W0 w')) (by kernel_rfl) ?_ (fun hHeld => ?_)
      · (try dsimp only); first | exact KW.out _ (Below.refl _ _).drew | exact KW.out _ (below_then (lastN_rf (by assumption)) (by assumption)) | exact KW.out _ (below_new (lastN_rf (by assumption)) _) | exact KW.out _ (below_new (Below.refl _ _) _).drew
      refine lex_take (i := 0) (v := ?_) rfl (by kernel_rfl) (by kernel_rfl) (by kernel_rfl) (fun _ _ _ h => h) (by rfl) ?_ (by assumption) ?_
      rotate_left
      · (intro w hSw; (try dsimp only at hSw); go_simp; try with_reducible rfl)
      try simp only [Act.put, List.setIfInBounds_toArray, List.set_cons_zero, List.set_cons_succ]
      refine lex_take (i := 1) (v := ?_) rfl (by kernel_rfl) (by kernel_rfl) (by kernel_rfl) (fun _ _ _ h => h) (by rfl) ?_ (by assumption) ?_
      rotate_left
      · (intro w hSw; (try dsimp only at hSw); go_simp; try with_reducible rfl)
      try simp only [Act.put, List.setIfInBounds_toArray, List.set_cons_zero, List.set_cons_succ]
      refine lex_take (i := 2) (v := ?_) rfl (by kernel_rfl) (by kernel_rfl) (by kernel_rfl) (fun _ _ _ h => h) (by rfl) ?_ (by assumption) ?_
      rotate_left
      · (intro w hSw; (try dsimp only at hSw); go_simp; try with_reducible rfl)
      try simp only [Act.put, List.setIfInBounds_toArray, List.set_cons_zero, List.set_cons_succ]
      refine lex_take (i := 3) (v := ?_) rfl (by kernel_rfl) (by kernel_rfl) (by kernel_rfl) (fun _ _ _ h => h) (by rfl) ?_ (by assumption) ?_
      rotate_left
      · (intro w hSw; (try dsimp only at hSw); go_simp; try with_reducible rfl)
      try simp only [Act.put, List.setIfInBounds_toArray, List.set_cons_zero, List.set_cons_succ]
      refine lex_take (i := 4) (v := ?_) rfl (by kernel_rfl) (by kernel_rfl) (by kernel_rfl) (fun _ _ _ h => h) (by rfl) ?_ (by assumption) ?_
      rotate_left
      · (intro w hSw; (try dsimp only at hSw); go_simp; try with_reducible rfl)
      try simp only [Act.put, List.setIfInBounds_toArray, List.set_cons_zero, List.set_cons_succ]
      refine lex_take (i := 5) (v := ?_) rfl (by kernel_rfl) (by kernel_rfl) (by kernel_rfl) (fun _ _ _ h => h) (by rfl) ?_ (by assumption) ?_
      rotate_left
      · (intro w hSw; (try dsimp only at hSw); go_simp; try with_reducible rfl)
      try simp only [Act.put, List.setIfInBounds_toArray, List.set_cons_zero, List.set_cons_succ]
      refine lex_take (i := 7) (v := ?_) rfl (by kernel_rfl) (by kernel_rfl) (by kernel_rfl) (fun _ _ _ h => h) (by rfl) ?_ (by assumption) ?_
      rotate_left
      · (intro w hSw; (try dsimp only at hSw); go_simp; try with_reducible rfl)
      try simp only [Act.put, List.setIfInBounds_toArray, List.set_cons_zero, List.set_cons_succ]
      refine lex_take (i := 8) (v := ?_) rfl (by kernel_rfl) (by kernel_rfl) (by kernel_rfl) (fun _ _ _ h => h) (by rfl) ?_ (by assumption) ?_
      rotate_left
      · (intro w hSw; (try dsimp only at hSw); go_simp; try with_reducible rfl)
      try simp only [Act.put, List.setIfInBounds_toArray, List.set_cons_zero, List.set_cons_succ]
      refine lex_take (i := 9) (v := ?_) rfl (by kernel_rfl) (by kernel_rfl) (by kernel_rfl) (fun _ _ _ h => h) (by rfl) ?_ (by assumption) ?_
      rotate_left
      · (intro w hSw; (try dsimp only at hSw); go_simp; try with_reducible rfl)
      try simp only [Act.put, List.setIfInBounds_toArray, List.set_cons_zero, List.set_cons_succ]
      refine lex_take (i := 12) (v := ?_) rfl (by kernel_rfl) (by kernel_rfl) (by kernel_rfl) (fun _ _ _ h => h) (by rfl) ?_ (by assumption) ?_
      rotate_left
      · (intro w hSw; (try dsimp only at hSw); go_simp; try with_reducible rfl)
      try simp only [Act.put, List.setIfInBounds_toArray, List.set_cons_zero, List.set_cons_succ]
      refine lex_take (i := 13) (v := ?_) rfl (by kernel_rfl) (by kernel_rfl) (by kernel_rfl) (fun _ _ _ h => h) (by rfl) ?_ (by assumption) ?_
      rotate_left
      · (intro w hSw; (try dsimp only at hSw); go_simp; try with_reducible rfl)
      try simp only [Act.put, List.setIfInBounds_toArray, List.set_cons_zero, List.set_cons_succ]
      refine lex_take (i := 14) (v := ?_) rfl (by kernel_rfl) (by kernel_rfl) (by kernel_rfl) (fun _ _ _ h => h) (by rfl) ?_ (by assumption) ?_
      rotate_left
      · (intro w hSw; (try dsimp only at hSw); go_simp; try with_reducible rfl)
      try simp only [Act.put, List.setIfInBounds_toArray, List.set_cons_zero, List.set_cons_succ]
      refine lex_take (i := 15) (v := ?_) rfl (by kernel_rfl) (by kernel_rfl) (by kernel_rfl) (fun _ _ _ h => h) (by rfl) ?_ (by assumption) ?_
      rotate_left
      · (intro w hSw; (try dsimp only at hSw); go_simp; try with_reducible rfl)
      try simp only [Act.put, List.setIfInBounds_toArray, List.set_cons_zero, List.set_cons_succ]
      refine lex_take (i := 16) (v := ?_) rfl (by kernel_rfl) (by kernel_rfl) (by kernel_rfl) (fun _ _ _ h => h) (by rfl) ?_ (by assumption) ?_
      rotate_left
      · (intro w hSw; (try dsimp only at hSw); go_simp; try with_reducible rfl)
      try simp only [Act.put, List.setIfInBounds_toArray, List.set_cons_zero, List.set_cons_succ]
      refine lex_take (i := 17) (v := ?_) rfl (by kernel_rfl) (by kernel_rfl) (by kernel_rfl) (fun _ _ _ h => h) (by rfl) ?_ (by assumption) ?_
      rotate_left
      · (intro w hSw; (try dsimp only at hSw); go_simp; try with_reducible rfl)
      try simp only [Act.put, List.setIfInBounds_toArray, List.set_cons_zero, List.set_cons_succ]
      refine lex_take (i := 18) (v := ?_) rfl (by kernel_rfl) (by kernel_rfl) (by kernel_rfl) (fun _ _ _ h => h) (by rfl) ?_ (by assumption) ?_
      rotate_left
      · (intro w hSw; (try dsimp only at hSw); go_simp; try with_reducible rfl)
      try simp only [Act.put, List.setIfInBounds_toArray, List.set_cons_zero, List.set_cons_succ]
      refine lex_take (i := 19) (v := ?_) rfl (by kernel_rfl) (by kernel_rfl) (by kernel_rfl) (fun _ _ _ h => h) (by rfl) ?_ (by assumption) ?_
      rotate_left
      · (intro w hSw; (try dsimp only at hSw); go_simp; try with_reducible rfl)
      try simp only [Act.put, List.setIfInBounds_toArray, List.set_cons_zero, List.set_cons_succ]
      refine lex_take (i := 20) (v := ?_) rfl (by kernel_rfl) (by kernel_rfl) (by kernel_rfl) (fun _ _ _ h => h) (by rfl) ?_ (by assumption) ?_
      rotate_left
      · (intro w hSw; (try dsimp only at hSw); go_simp; try with_reducible rfl)
      try simp only [Act.put, List.setIfInBounds_toArray, List.set_cons_zero, List.set_cons_succ]
      refine lex_take (i := 21) (v := ?_) rfl (by kernel_rfl) (by kernel_rfl) (by kernel_rfl) (fun _ _ _ h => h) (by rfl) ?_ (by assumption) ?_
      rotate_left
      · (intro w hSw; (try dsimp only at hSw); go_simp; try with_reducible rfl)
      try simp only [Act.put, List.setIfInBounds_toArray, List.set_cons_zero, List.set_cons_succ]
      refine lex_take (i := 22) (v := ?_) rfl (by kernel_rfl) (by kernel_rfl) (by kernel_rfl) (fun _ _ _ h => h) (by rfl) ?_ (by assumption) ?_
      rotate_left
      · (intro w hSw; (try dsimp only at hSw); go_simp; try with_reducible rfl)
      try simp only [Act.put, List.setIfInBounds_toArray, List.set_cons_zero, List.set_cons_succ]
      refine lex_take (i := 23) (v := ?_) rfl (by kernel_rfl) (by kernel_rfl) (by kernel_rfl) (fun _ _ _ h => h) (by rfl) ?_ (by assumption) ?_
      rotate_left
      · (intro w hSw; (try dsimp only at hSw); go_simp; try with_reducible rfl)
      try simp only [Act.put, List.setIfInBounds_toArray, List.set_cons_zero, List.set_cons_succ]
      refine lex_take (i := 24) (v := ?_) rfl (by kernel_rfl) (by kernel_rfl) (by kernel_rfl) (fun _ _ _ h => h) (by rfl) ?_ (by assumption) ?_
      rotate_left
      · (intro w hSw; (try dsimp only at hSw); go_simp; try with_reducible rfl)
      try simp only [Act.put, List.setIfInBounds_toArray, List.set_cons_zero, List.set_cons_succ]
      refine lex_take (i := 25) (v := ?_) rfl (by kernel_rfl) (by kernel_rfl) (by kernel_rfl) (fun _ _ _ h => h) (by rfl) ?_ (by assumption) ?_
      rotate_left
      · (intro w hSw; (try dsimp only at hSw); go_simp; try with_reducible rfl)
      try simp only [Act.put, List.setIfInBounds_toArray, List.set_cons_zero, List.set_cons_succ]
      refine lex_take (i := 26) (v := ?_) rfl (by kernel_rfl) (by kernel_rfl) (by kernel_rfl) (fun _ _ _ h => h) (by rfl) ?_ (by assumption) ?_
      rotate_left
      · (intro w hSw; (try dsimp only at hSw); go_simp; try with_reducible rfl)
      try simp only [Act.put, List.setIfInBounds_toArray, List.set_cons_zero, List.set_cons_succ]
      refine lex_take (i := 27) (v := ?_) rfl (by kernel_rfl) (by kernel_rfl) (by kernel_rfl) (fun _ _ _ h => h) (by rfl) ?_ (by assumption) ?_
      rotate_left
      · (intro w hSw; (try dsimp only at hSw); go_simp; try with_reducible rfl)
      try simp only [Act.put, List.setIfInBounds_toArray, List.set_cons_zero, List.set_cons_succ]
      refine lex_take (i := 28) (v := ?_) rfl (by kernel_rfl) (by kernel_rfl) (by kernel_rfl) (fun _ _ _ h => h) (by rfl) ?_ (by assumption) ?_
      rotate_left
      · (intro w hSw; (try dsimp only at hSw); go_simp; try with_reducible rfl)
      try simp only [Act.put, List.setIfInBounds_toArray, List.set_cons_zero, List.set_cons_succ]
      refine lex_take (i := 29) (v := ?_) rfl (by kernel_rfl) (by kernel_rfl) (by kernel_rfl) (fun _ _ _ h => h) (by rfl) ?_ (by assumption) ?_
      rotate_left
      · (intro w hSw; (try dsimp only at hSw); go_simp; try with_reducible rfl)
      try simp only [Act.put, List.setIfInBounds_toArray, List.set_cons_zero, List.set_cons_succ]
      refine lex_take (i := 31) (v := ?_) rfl (by kernel_rfl) (by kernel_rfl) (by kernel_rfl) (fun _ _ _ h => h) (by rfl) ?_ (by assumption) ?_
      rotate_left
      · (intro w hSw; (try dsimp only at hSw); go_simp; try with_reducible rfl)
      try simp only [Act.put, List.setIfInBounds_toArray, List.set_cons_zero, List.set_cons_succ]
      refine lex_take (i := 32) (v := ?_) rfl (by kernel_rfl) (by kernel_rfl) (by kernel_rfl) (fun _ _ _ h => h) (by rfl) ?_ (by assumption) ?_
      rotate_left
      · (intro w hSw; (try dsimp only at hSw); go_simp; try with_reducible rfl)
      try simp only [Act.put, List.setIfInBounds_toArray, List.set_cons_zero, List.set_cons_succ]
      refine lex_step (i := 6) rfl (by kernel_rfl) (by rfl) (fun Kx hKx => ?_)
      go_simp
      go_at_call 31; (with_reducible refine (ref_Floor _ _ _ (by omega) (by omega) (by omega) (by omega)).mono ?_); rintro e w' ⟨rfl, hw⟩; subst hw
      try go_wp2_with fail
      refine hKx.out _ _ ?_ (fun hHeld => ?_)
      · (try dsimp only); first | exact KW.out _ (Below.refl _ _).drew | exact KW.out _ (below_then (lastN_rf (by assumption)) (by assumption)) | exact KW.out _ (below_new (lastN_rf (by assumption)) _) | exact KW.out _ (below_new (Below.refl _ _) _).drew
      clear hKx Kx
      try simp only [Act.put, List.setIfInBounds_toArray, List.set_cons_zero, List.set_cons_succ]
      refine lex_step (i := 10) rfl (by kernel_rfl) (by rfl) (fun Kx hKx => ?_)
      go_simp
      go_at_call 31; (with_reducible refine (ref_Floor _ _ _ (by omega) (by omega) (by omega) (by omega)).mono ?_); rintro e w' ⟨rfl, hw⟩; subst hw
      try go_wp2_with fail
      refine hKx.out _ _ ?_ (fun hHeld => ?_)
      · (try dsimp only); first | exact KW.out _ (Below.refl _ _).drew | exact KW.out _ (below_then (lastN_rf (by assumption)) (by assumption)) | exact KW.out _ (below_new (lastN_rf (by assumption)) _) | exact KW.out _ (below_new (Below.refl _ _) _).drew
      clear hKx Kx
      try simp only [Act.put, List.setIfInBounds_toArray, List.set_cons_zero, List.set_cons_succ]
      refine lex_take (i := 11) (v := ?_) rfl (by kernel_rfl) (by kernel_rfl) (by kernel_rfl) (fun _ _ _ h => h) (by rfl) ?_ (by assumption) ?_
      rotate_left
      · (intro w hSw; (try dsimp only at hSw); go_simp; try with_reducible rfl)
      try simp only [Act.put, List.setIfInBounds_toArray, List.set_cons_zero, List.set_cons_succ]
      refine lex_step (i := 30) rfl (by kernel_rfl) (by rfl) (fun Kx hKx => ?_)
      go_simp
      try go_wp2_with fail
      refine hKx.out _ _ ?_ (fun hHeld => ?_)
      · (try dsimp only); first | exact KW.out _ (Below.refl _ _).drew | exact KW.out _ (below_then (lastN_rf (by assumption)) (by assumption)) | exact KW.out _ (below_new (lastN_rf (by assumption)) _) | exact KW.out _ (below_new (Below.refl _ _) _).drew
      clear hKx Kx
      try simp only [Act.put, List.setIfInBounds_toArray, List.set_cons_zero, List.set_cons_succ]
      refine lex_take (i := 33) (v := ?_) rfl (by kernel_rfl) (by kernel_rfl) (by kernel_rfl) (fun _ _ _ h => h) (by rfl) ?_ (by assumption) ?_
      rotate_left
      · (intro w hSw; (try dsimp only at hSw); go_simp; try with_reducible rfl)
      try simp only [Act.put, List.setIfInBounds_toArray, List.set_cons_zero, List.set_cons_succ]
      refine lex_step (i := 34) rfl (by kernel_rfl) (by rfl) (fun Kx hKx => ?_)
      go_simp
      try go_wp2_with fail
      refine hKx.out _ _ ?_ (fun hHeld => ?_)
      · (try dsimp only); first | exact KW.out _ (Below.refl _ _).drew | exact KW.out _ (below_then (lastN_rf (by assumption)) (by assumption)) | exact KW.out _ (below_new (lastN_rf (by assumption)) _) | exact KW.out _ (below_new (Below.refl _ _) _).drew
      clear hKx Kx
      try simp only [Act.put, List.setIfInBounds_toArray, List.set_cons_zero, List.set_cons_succ]
      refine lex_take (i := 35) (v := ?_) rfl (by kernel_rfl) (by kernel_rfl) (by kernel_rfl) (fun _ _ _ h => h) (by rfl) ?_ (by assumption) ?_
      rotate_left
      · (intro w hSw; (try dsimp only at hSw); go_simp; try with_reducible rfl)
      try simp only [Act.put, List.setIfInBounds_toArray, List.set_cons_zero, List.set_cons_succ]
      refine wpAnyH_done (by kernel_rfl) ?_ _
      go_wp2_with fail
      go_meet
      case rel => exact ⟨by rw [HD.out]; unfold unitOf; congr 1; (try simp); (try omega), lastN_rf (by assumption)⟩
    · refine wp_region_held_drew (S := (fun w' => w'.cell? ⟨w.heap.size, 0, none⟩ = some (.int .i64 3) ∧ w'.cell? ⟨w.heap.size, 1, none⟩ = some (.int .i64 ev) ∧ w'.cell? ⟨w.heap.size, 2, none⟩ = some (.int .i64 f) ∧ w'.cell? ⟨w.heap.size, 3, none⟩ = some (.int .i64 cn) ∧ w'.cell? ⟨w.heap.size, 4, none⟩ = some (.int .i64 un) ∧ w'.cell? ⟨w.heap.size, 5, none⟩ = some (.slice a1 n1 c1) ∧ w'.cell? ⟨w.heap.size, 6, none⟩ = some (.slice a2 n2 c2) ∧ w'.cell? ⟨w.heap.size, 7, none⟩ = some (.slice a3 n3 c3) ∧ w'.cell? ⟨mb, 0, none⟩ = some (.int .i64 (gY f)) ∧ w'.cell? ⟨mb, 1, none⟩ = some (.int .i64 (gM f)) ∧ w'.cell? ⟨mb, 2, none⟩ = some (.int .i64 (gD f)) ∧ w'.cell? ⟨(mb + 1), 0, none⟩ = some (.int .i64 (gY x)) ∧ w'.cell? ⟨(mb + 1), 1, none⟩ = some (.int .i64 (gM x)) ∧ w'.cell? ⟨(mb + 1), 2, none⟩ = some (.int .i64 (gD x)) ∧ Below W0.heap.size W0 w')) (by kernel_rfl) ?_ (fun hHeld => ?_)
      · (try dsimp only); first | exact KW.out _ (Below.refl _ _).drew | exact KW.out _ (below_then (lastN_rf (by assumption)) (by assumption)) | exact KW.out _ (below_new (lastN_rf (by assumption)) _) | exact KW.out _ (below_new (Below.refl _ _) _).drew
      refine lex_take (i := 0) (v := ?_) rfl (by kernel_rfl) (by kernel_rfl) (by kernel_rfl) (fun _ _ _ h => h) (by rfl) ?_ (by assumption) ?_
      rotate_left
      · (intro w hSw; (try dsimp only at hSw); go_simp; try with_reducible rfl)
      try simp only [Act.put, List.setIfInBounds_toArray, List.set_cons_zero, List.set_cons_succ]
      refine lex_take (i := 1) (v := ?_) rfl (by kernel_rfl) (by kernel_rfl) (by kernel_rfl) (fun _ _ _ h => h) (by rfl) ?_ (by assumption) ?_
      rotate_left
      · (intro w hSw; (try dsimp only at hSw); go_simp; try with_reducible rfl)
      try simp only [Act.put, List.setIfInBounds_toArray, List.set_cons_zero, List.set_cons_succ]
      refine lex_take (i := 2) (v := ?_) rfl (by kernel_rfl) (by kernel_rfl) (by kernel_rfl) (fun _ _ _ h => h) (by rfl) ?_ (by assumption) ?_
      rotate_left
      · (intro w hSw; (try dsimp only at hSw); go_simp; try with_reducible rfl)
      try simp only [Act.put, List.setIfInBounds_toArray, List.set_cons_zero, List.set_cons_succ]
      refine lex_take (i := 3) (v := ?_) rfl (by kernel_rfl) (by kernel_rfl) (by kernel_rfl) (fun _ _ _ h => h) (by rfl) ?_ (by assumption) ?_
      rotate_left
      · (intro w hSw; (try dsimp only at hSw); go_simp; try with_reducible rfl)
      try simp only [Act.put, List.setIfInBounds_toArray, List.set_cons_zero, List.set_cons_succ]
      refine lex_take (i := 4) (v := ?_) rfl (by kernel_rfl) (by kernel_rfl) (by kernel_rfl) (fun _ _ _ h => h) (by rfl) ?_ (by assumption) ?_
      rotate_left
      · (intro w hSw; (try dsimp only at hSw); go_simp; try with_reducible rfl)
      try simp only [Act.put, List.setIfInBounds_toArray, List.set_cons_zero, List.set_cons_succ]
      refine lex_take (i := 5) (v := ?_) rfl (by kernel_rfl) (by kernel_rfl) (by kernel_rfl) (fun _ _ _ h => h) (by rfl) ?_ (by assumption) ?_
      rotate_left
      · (intro w hSw; (try dsimp only at hSw); go_simp; try with_reducible rfl)
      try simp only [Act.put, List.setIfInBounds_toArray, List.set_cons_zero, List.set_cons_succ]
      refine lex_take (i := 7) (v := ?_) rfl (by kernel_rfl) (by kernel_rfl) (by kernel_rfl) (fun _ _ _ h => h) (by rfl) ?_ (by assumption) ?_
      rotate_left
      · (intro w hSw; (try dsimp only at hSw); go_simp; try with_reducible rfl)
      try simp only [Act.put, List.setIfInBounds_toArray, List.set_cons_zero, List.set_cons_succ]
      refine lex_take (i := 8) (v := ?_) rfl (by kernel_rfl) (by kernel_rfl) (by kernel_rfl) (fun _ _ _ h => h) (by rfl) ?_ (by assumption) ?_
      rotate_left
      · (intro w hSw; (try dsimp only at hSw); go_simp; try with_reducible rfl)
      try simp only [Act.put, List.setIfInBounds_toArray, List.set_cons_zero, List.set_cons_succ]
      refine lex_take (i := 9) (v := ?_) rfl (by kernel_rfl) (by kernel_rfl) (by kernel_rfl) (fun _ _ _ h => h) (by rfl) ?_ (by assumption) ?_
      rotate_left
      · (intro w hSw; (try dsimp only at hSw); go_simp; try with_reducible rfl)
      try simp only [Act.put, List.setIfInBounds_toArray, List.set_cons_zero, List.set_cons_succ]
      refine lex_take (i := 12) (v := ?_) rfl (by kernel_rfl) (by kernel_rfl) (by kernel_rfl) (fun _ _ _ h => h) (by rfl) ?_ (by assumption) ?_
      rotate_left
      · (intro w hSw; (try dsimp only at hSw); go_simp; try with_reducible rfl)
      try simp only [Act.put, List.setIfInBounds_toArray, List.set_cons_zero, List.set_cons_succ]
      refine lex_take (i := 13) (v := ?_) rfl (by kernel_rfl) (by kernel_rfl) (by kernel_rfl) (fun _ _ _ h => h) (by rfl) ?_ (by assumption) ?_
      rotate_left
      · (intro w hSw; (try dsimp only at hSw); go_simp; try with_reducible rfl)
      try simp only [Act.put, List.setIfInBounds_toArray, List.set_cons_zero, List.set_cons_succ]
      refine lex_take (i := 14) (v := ?_) rfl (by kernel_rfl) (by kernel_rfl) (by kernel_rfl) (fun _ _ _ h => h) (by rfl) ?_ (by assumption) ?_
      rotate_left
      · (intro w hSw; (try dsimp only at hSw); go_simp; try with_reducible rfl)
      try simp only [Act.put, List.setIfInBounds_toArray, List.set_cons_zero, List.set_cons_succ]
      refine lex_take (i := 15) (v := ?_) rfl (by kernel_rfl) (by kernel_rfl) (by kernel_rfl) (fun _ _ _ h => h) (by rfl) ?_ (by assumption) ?_
      rotate_left
      · (intro w hSw; (try dsimp only at hSw); go_simp; try with_reducible rfl)
      try simp only [Act.put, List.setIfInBounds_toArray, List.set_cons_zero, List.set_cons_succ]
      refine lex_take (i := 16) (v := ?_) rfl (by kernel_rfl) (by kernel_rfl) (by kernel_rfl) (fun _ _ _ h => h) (by rfl) ?_ (by assumption) ?_
      rotate_left
      · (intro w hSw; (try dsimp only at hSw); go_simp; try with_reducible rfl)
      try simp only [Act.put, List.setIfInBounds_toArray, List.set_cons_zero, List.set_cons_succ]
      refine lex_take (i := 17) (v := ?_) rfl (by kernel_rfl) (by kernel_rfl) (by kernel_rfl) (fun _ _ _ h => h) (by rfl) ?_ (by assumption) ?_
      rotate_left
      · (intro w hSw; (try dsimp only at hSw); go_simp; try with_reducible rfl)
      try simp only [Act.put, List.setIfInBounds_toArray, List.set_cons_zero, List.set_cons_succ]
      refine lex_take (i := 18) (v := ?_) rfl (by kernel_rfl) (by kernel_rfl) (by kernel_rfl) (fun _ _ _ h => h) (by rfl) ?_ (by assumption) ?_
      rotate_left
      · (intro w hSw; (try dsimp only at hSw); go_simp; try with_reducible rfl)
      try simp only [Act.put, List.setIfInBounds_toArray, List.set_cons_zero, List.set_cons_succ]
      refine lex_take (i := 19) (v := ?_) rfl (by kernel_rfl) (by kernel_rfl) (by kernel_rfl) (fun _ _ _ h => h) (by rfl) ?_ (by assumption) ?_
      rotate_left
      · (intro w hSw; (try dsimp only at hSw); go_simp; try with_reducible rfl)
      try simp only [Act.put, List.setIfInBounds_toArray, List.set_cons_zero, List.set_cons_succ]
      refine lex_take (i := 20) (v := ?_) rfl (by kernel_rfl) (by kernel_rfl) (by kernel_rfl) (fun _ _ _ h => h) (by rfl) ?_ (by assumption) ?_
      rotate_left
      · (intro w hSw; (try dsimp only at hSw); go_simp; try with_reducible rfl)
      try simp only [Act.put, List.setIfInBounds_toArray, List.set_cons_zero, List.set_cons_succ]
      refine lex_take (i := 21) (v := ?_) rfl (by kernel_rfl) (by kernel_rfl) (by kernel_rfl) (fun _ _ _ h => h) (by rfl) ?_ (by assumption) ?_
      rotate_left
      · (intro w hSw; (try dsimp only at hSw); go_simp; try with_reducible rfl)
      try simp only [Act.put, List.setIfInBounds_toArray, List.set_cons_zero, List.set_cons_succ]
      refine lex_take (i := 22) (v := ?_) rfl (by kernel_rfl) (by kernel_rfl) (by kernel_rfl) (fun _ _ _ h => h) (by rfl) ?_ (by assumption) ?_
      rotate_left
      · (intro w hSw; (try dsimp only at hSw); go_simp; try with_reducible rfl)
      try simp only [Act.put, List.setIfInBounds_toArray, List.set_cons_zero, List.set_cons_succ]
      refine lex_take (i := 23) (v := ?_) rfl (by kernel_rfl) (by kernel_rfl) (by kernel_rfl) (fun _ _ _ h => h) (by rfl) ?_ (by assumption) ?_
      rotate_left
      · (intro w hSw; (try dsimp only at hSw); go_simp; try with_reducible rfl)
      try simp only [Act.put, List.setIfInBounds_toArray, List.set_cons_zero, List.set_cons_succ]
      refine lex_take (i := 24) (v := ?_) rfl (by kernel_rfl) (by kernel_rfl) (by kernel_rfl) (fun _ _ _ h => h) (by rfl) ?_ (by assumption) ?_
      rotate_left
      · (intro w hSw; (try dsimp only at hSw); go_simp; try with_reducible rfl)
      try simp only [Act.put, List.setIfInBounds_toArray, List.set_cons_zero, List.set_cons_succ]
      refine lex_take (i := 25) (v := ?_) rfl (by kernel_rfl) (by kernel_rfl) (by kernel_rfl) (fun _ _ _ h => h) (by rfl) ?_ (by assumption) ?_
      rotate_left
      · (intro w hSw; (try dsimp only at hSw); go_simp; try with_reducible rfl)
      try simp only [Act.put, List.setIfInBounds_toArray, List.set_cons_zero, List.set_cons_succ]
      refine lex_take (i := 26) (v := ?_) rfl (by kernel_rfl) (by kernel_rfl) (by kernel_rfl) (fun _ _ _ h => h) (by rfl) ?_ (by assumption) ?_
      rotate_left
      · (intro w hSw; (try dsimp only at hSw); go_simp; try with_reducible rfl)
      try simp only [Act.put, List.setIfInBounds_toArray, List.set_cons_zero, List.set_cons_succ]
      refine lex_take (i := 27) (v := ?_) rfl (by kernel_rfl) (by kernel_rfl) (by kernel_rfl) (fun _ _ _ h => h) (by rfl) ?_ (by assumption) ?_
      rotate_left
      · (intro w hSw; (try dsimp only at hSw); go_simp; try with_reducible rfl)
      try simp only [Act.put, List.setIfInBounds_toArray, List.set_cons_zero, List.set_cons_succ]
      refine lex_take (i := 28) (v := ?_) rfl (by kernel_rfl) (by kernel_rfl) (by kernel_rfl) (fun _ _ _ h => h) (by rfl) ?_ (by assumption) ?_
      rotate_left
      · (intro w hSw; (try dsimp only at hSw); go_simp; try with_reducible rfl)
      try simp only [Act.put, List.setIfInBounds_toArray, List.set_cons_zero, List.set_cons_succ]
      refine lex_take (i := 29) (v := ?_) rfl (by kernel_rfl) (by kernel_rfl) (by kernel_rfl) (fun _ _ _ h => h) (by rfl) ?_ (by assumption) ?_
      rotate_left
      · (intro w hSw; (try dsimp only at hSw); go_simp; try with_reducible rfl)
      try simp only [Act.put, List.setIfInBounds_toArray, List.set_cons_zero, List.set_cons_succ]
      refine lex_take (i := 31) (v := ?_) rfl (by kernel_rfl) (by kernel_rfl) (by kernel_rfl) (fun _ _ _ h => h) (by rfl) ?_ (by assumption) ?_
      rotate_left
      · (intro w hSw; (try dsimp only at hSw); go_simp; try with_reducible rfl)
      try simp only [Act.put, List.setIfInBounds_toArray, List.set_cons_zero, List.set_cons_succ]
      refine lex_take (i := 32) (v := ?_) rfl (by kernel_rfl) (by kernel_rfl) (by kernel_rfl) (fun _ _ _ h => h) (by rfl) ?_ (by assumption) ?_
      rotate_left
      · (intro w hSw; (try dsimp only at hSw); go_simp; try with_reducible rfl)
      try simp only [Act.put, List.setIfInBounds_toArray, List.set_cons_zero, List.set_cons_succ]
      refine lex_step (i := 6) rfl (by kernel_rfl) (by rfl) (fun Kx hKx => ?_)
      go_simp
      go_at_call 31; (with_reducible refine (ref_Floor _ _ _ (by omega) (by omega) (by omega) (by omega)).mono ?_); rintro e w' ⟨rfl, hw⟩; subst hw
      try go_wp2_with fail
      refine hKx.out _ _ ?_ (fun hHeld => ?_)
      · (try dsimp only); first | exact KW.out _ (Below.refl _ _).drew | exact KW.out _ (below_then (lastN_rf (by assumption)) (by assumption)) | exact KW.out _ (below_new (lastN_rf (by assumption)) _) | exact KW.out _ (below_new (Below.refl _ _) _).drew
      clear hKx Kx
      try simp only [Act.put, List.setIfInBounds_toArray, List.set_cons_zero, List.set_cons_succ]
      refine lex_step (i := 10) rfl (by kernel_rfl) (by rfl) (fun Kx hKx => ?_)
      go_simp
      go_at_call 31; (with_reducible refine (ref_Floor _ _ _ (by omega) (by omega) (by omega) (by omega)).mono ?_); rintro e w' ⟨rfl, hw⟩; subst hw
      try go_wp2_with fail
      refine hKx.out _ _ ?_ (fun hHeld => ?_)
      · (try dsimp only); first | exact KW.out _ (Below.refl _ _).drew | exact KW.out _ (below_then (lastN_rf (by assumption)) (by assumption)) | exact KW.out _ (below_new (lastN_rf (by assumption)) _) | exact KW.out _ (below_new (Below.refl _ _) _).drew
      clear hKx Kx
      try simp only [Act.put, List.setIfInBounds_toArray, List.set_cons_zero, List.set_cons_succ]
      refine lex_take (i := 11) (v := ?_) rfl (by kernel_rfl) (by kernel_rfl) (by kernel_rfl) (fun _ _ _ h => h) (by rfl) ?_ (by assumption) ?_
      rotate_left
      · (intro w hSw; (try dsimp only at hSw); go_simp; try with_reducible rfl)
      try simp only [Act.put, List.setIfInBounds_toArray, List.set_cons_zero, List.set_cons_succ]
      refine lex_step (i := 30) rfl (by kernel_rfl) (by rfl) (fun Kx hKx => ?_)
      go_simp
      try go_wp2_with fail
      refine hKx.out _ _ ?_ (fun hHeld => ?_)
      · (try dsimp only); first | exact KW.out _ (Below.refl _ _).drew | exact KW.out _ (below_then (lastN_rf (by assumption)) (by assumption)) | exact KW.out _ (below_new (lastN_rf (by assumption)) _) | exact KW.out _ (below_new (Below.refl _ _) _).drew
      clear hKx Kx
      try simp only [Act.put, List.setIfInBounds_toArray, List.set_cons_zero, List.set_cons_succ]
      refine lex_take (i := 33) (v := ?_) rfl (by kernel_rfl) (by kernel_rfl) (by kernel_rfl) (fun _ _ _ h => h) (by rfl) ?_ (by assumption) ?_
      rotate_left
      · (intro w hSw; (try dsimp only at hSw); go_simp; try with_reducible rfl)
      try simp only [Act.put, List.setIfInBounds_toArray, List.set_cons_zero, List.set_cons_succ]
      refine lex_step (i := 34) rfl (by kernel_rfl) (by rfl) (fun Kx hKx => ?_)
      go_simp
      try go_wp2_with fail
      refine hKx.out _ _ ?_ (fun hHeld => ?_)
      · (try dsimp only); first | exact KW.out _ (Below.refl _ _).drew | exact KW.out _ (below_then (lastN_rf (by assumption)) (by assumption)) | exact KW.out _ (below_new (lastN_rf (by assumption)) _) | exact KW.out _ (below_new (Below.refl _ _) _).drew
      clear hKx Kx
      try simp only [Act.put, List.setIfInBounds_toArray, List.set_cons_zero, List.set_cons_succ]
      refine lex_take (i := 35) (v := ?_) rfl (by kernel_rfl) (by kernel_rfl) (by kernel_rfl) (fun _ _ _ h => h) (by rfl) ?_ (by assumption) ?_
      rotate_left
      · (intro w hSw; (try dsimp only at hSw); go_simp; try with_reducible rfl)
      try simp only [Act.put, List.setIfInBounds_toArray, List.set_cons_zero, List.set_cons_succ]
      refine wpAnyH_done (by kernel_rfl) ?_ _
      go_wp2_with fail
      go_meet
      case rel => exact ⟨by rw [HD.out]; unfold unitOf; congr 1; (try simp); (try omega), lastN_rf (by assumption)⟩
    · refine wp_region_held_drew (S := (fun w' => w'.cell? ⟨w.heap.size, 0, none⟩ = some (.int .i64 4) ∧ w'.cell? ⟨w.heap.size, 1, none⟩ = some (.int .i64 ev) ∧ w'.cell? ⟨w.heap.size, 2, none⟩ = some (.int .i64 f) ∧ w'.cell? ⟨w.heap.size, 3, none⟩ = some (.int .i64 cn) ∧ w'.cell? ⟨w.heap.size, 4, none⟩ = some (.int .i64 un) ∧ w'.cell? ⟨w.heap.size, 5, none⟩ = some (.slice a1 n1 c1) ∧ w'.cell? ⟨w.heap.size, 6, none⟩ = some (.slice a2 n2 c2) ∧ w'.cell? ⟨w.heap.size, 7, none⟩ = some (.slice a3 n3 c3) ∧ w'.cell? ⟨mb, 0, none⟩ = some (.int .i64 (gY f)) ∧ w'.cell? ⟨mb, 1, none⟩ = some (.int .i64 (gM f)) ∧ w'.cell? ⟨mb, 2, none⟩ = some (.int .i64 (gD f)) ∧ w'.cell? ⟨(mb + 1), 0, none⟩ = some (.int .i64 (gY x)) ∧ w'.cell? ⟨(mb + 1), 1, none⟩ = some (.int .i64 (gM x)) ∧ w'.cell? ⟨(mb + 1), 2, none⟩ = some (.int .i64 (gD x)) ∧ Below W0.heap.size W0 w')) (by kernel_rfl) ?_ (fun hHeld => ?_)
      · (try dsimp only); first | exact KW.out _ (Below.refl _ _).drew | exact KW.out _ (below_then (lastN_rf (by assumption)) (by assumption)) | exact KW.out _ (below_new (lastN_rf (by assumption)) _) | exact KW.out _ (below_new (Below.refl _ _) _).drew
      refine lex_take (i := 0) (v := ?_) rfl (by kernel_rfl) (by kernel_rfl) (by kernel_rfl) (fun _ _ _ h => h) (by rfl) ?_ (by assumption) ?_
      rotate_left
      · (intro w hSw; (try dsimp only at hSw); go_simp; try with_reducible rfl)
      try simp only [Act.put, List.setIfInBounds_toArray, List.set_cons_zero, List.set_cons_succ]
      refine lex_take (i := 1) (v := ?_) rfl (by kernel_rfl) (by kernel_rfl) (by kernel_rfl) (fun _ _ _ h => h) (by rfl) ?_ (by assumption) ?_
      rotate_left
      · (intro w hSw; (try dsimp only at hSw); go_simp; try with_reducible rfl)
      try simp only [Act.put, List.setIfInBounds_toArray, List.set_cons_zero, List.set_cons_succ]
      refine lex_take (i := 2) (v := ?_) rfl (by kernel_rfl) (by kernel_rfl) (by kernel_rfl) (fun _ _ _ h => h) (by rfl) ?_ (by assumption) ?_
      rotate_left
      · (intro w hSw; (try dsimp only at hSw); go_simp; try with_reducible rfl)
      try simp only [Act.put, List.setIfInBounds_toArray, List.set_cons_zero, List.set_cons_succ]
      refine lex_take (i := 3) (v := ?_) rfl (by kernel_rfl) (by kernel_rfl) (by kernel_rfl) (fun _ _ _ h => h) (by rfl) ?_ (by assumption) ?_
      rotate_left
      · (intro w hSw; (try dsimp only at hSw); go_simp; try with_reducible rfl)
      try simp only [Act.put, List.setIfInBounds_toArray, List.set_cons_zero, List.set_cons_succ]
      refine lex_take (i := 4) (v := ?_) rfl (by kernel_rfl) (by kernel_rfl) (by kernel_rfl) (fun _ _ _ h => h) (by rfl) ?_ (by assumption) ?_
      rotate_left
      · (intro w hSw; (try dsimp only at hSw); go_simp; try with_reducible rfl)
      try simp only [Act.put, List.setIfInBounds_toArray, List.set_cons_zero, List.set_cons_succ]
      refine lex_take (i := 5) (v := ?_) rfl (by kernel_rfl) (by kernel_rfl) (by kernel_rfl) (fun _ _ _ h => h) (by rfl) ?_ (by assumption) ?_
      rotate_left
      · (intro w hSw; (try dsimp only at hSw); go_simp; try with_reducible rfl)
      try simp only [Act.put, List.setIfInBounds_toArray, List.set_cons_zero, List.set_cons_succ]
      refine lex_take (i := 7) (v := ?_) rfl (by kernel_rfl) (by kernel_rfl) (by kernel_rfl) (fun _ _ _ h => h) (by rfl) ?_ (by assumption) ?_
      rotate_left
      · (intro w hSw; (try dsimp only at hSw); go_simp; try with_reducible rfl)
      try simp only [Act.put, List.setIfInBounds_toArray, List.set_cons_zero, List.set_cons_succ]
      refine lex_take (i := 8) (v := ?_) rfl (by kernel_rfl) (by kernel_rfl) (by kernel_rfl) (fun _ _ _ h => h) (by rfl) ?_ (by assumption) ?_
      rotate_left
      · (intro w hSw; (try dsimp only at hSw); go_simp; try with_reducible rfl)
      try simp only [Act.put, List.setIfInBounds_toArray, List.set_cons_zero, List.set_cons_succ]
      refine lex_take (i := 9) (v := ?_) rfl (by kernel_rfl) (by kernel_rfl) (by kernel_rfl) (fun _ _ _ h => h) (by rfl) ?_ (by assumption) ?_
      rotate_left
      · (intro w hSw; (try dsimp only at hSw); go_simp; try with_reducible rfl)
      try simp only [Act.put, List.setIfInBounds_toArray, List.set_cons_zero, List.set_cons_succ]
      refine lex_take (i := 12) (v := ?_) rfl (by kernel_rfl) (by kernel_rfl) (by kernel_rfl) (fun _ _ _ h => h) (by rfl) ?_ (by assumption) ?_
      rotate_left
      · (intro w hSw; (try dsimp only at hSw); go_simp; try with_reducible rfl)
      try simp only [Act.put, List.setIfInBounds_toArray, List.set_cons_zero, List.set_cons_succ]
      refine lex_take (i := 13) (v := ?_) rfl (by kernel_rfl) (by kernel_rfl) (by kernel_rfl) (fun _ _ _ h => h) (by rfl) ?_ (by assumption) ?_
      rotate_left
      · (intro w hSw; (try dsimp only at hSw); go_simp; try with_reducible rfl)
      try simp only [Act.put, List.setIfInBounds_toArray, List.set_cons_zero, List.set_cons_succ]
      refine lex_take (i := 14) (v := ?_) rfl (by kernel_rfl) (by kernel_rfl) (by kernel_rfl) (fun _ _ _ h => h) (by rfl) ?_ (by assumption) ?_
      rotate_left
      · (intro w hSw; (try dsimp only at hSw); go_simp; try with_reducible rfl)
      try simp only [Act.put, List.setIfInBounds_toArray, List.set_cons_zero, List.set_cons_succ]
      refine lex_take (i := 15) (v := ?_) rfl (by kernel_rfl) (by kernel_rfl) (by kernel_rfl) (fun _ _ _ h => h) (by rfl) ?_ (by assumption) ?_
      rotate_left
      · (intro w hSw; (try dsimp only at hSw); go_simp; try with_reducible rfl)
      try simp only [Act.put, List.setIfInBounds_toArray, List.set_cons_zero, List.set_cons_succ]
      refine lex_take (i := 16) (v := ?_) rfl (by kernel_rfl) (by kernel_rfl) (by kernel_rfl) (fun _ _ _ h => h) (by rfl) ?_ (by assumption) ?_
      rotate_left
      · (intro w hSw; (try dsimp only at hSw); go_simp; try with_reducible rfl)
      try simp only [Act.put, List.setIfInBounds_toArray, List.set_cons_zero, List.set_cons_succ]
      refine lex_take (i := 17) (v := ?_) rfl (by kernel_rfl) (by kernel_rfl) (by kernel_rfl) (fun _ _ _ h => h) (by rfl) ?_ (by assumption) ?_
      rotate_left
      · (intro w hSw; (try dsimp only at hSw); go_simp; try with_reducible rfl)
      try simp only [Act.put, List.setIfInBounds_toArray, List.set_cons_zero, List.set_cons_succ]
      refine lex_take (i := 18) (v := ?_) rfl (by kernel_rfl) (by kernel_rfl) (by kernel_rfl) (fun _ _ _ h => h) (by rfl) ?_ (by assumption) ?_
      rotate_left
      · (intro w hSw; (try dsimp only at hSw); go_simp; try with_reducible rfl)
      try simp only [Act.put, List.setIfInBounds_toArray, List.set_cons_zero, List.set_cons_succ]
      refine lex_take (i := 19) (v := ?_) rfl (by kernel_rfl) (by kernel_rfl) (by kernel_rfl) (fun _ _ _ h => h) (by rfl) ?_ (by assumption) ?_
      rotate_left
      · (intro w hSw; (try dsimp only at hSw); go_simp; try with_reducible rfl)
      try simp only [Act.put, List.setIfInBounds_toArray, List.set_cons_zero, List.set_cons_succ]
      refine lex_take (i := 20) (v := ?_) rfl (by kernel_rfl) (by kernel_rfl) (by kernel_rfl) (fun _ _ _ h => h) (by rfl) ?_ (by assumption) ?_
      rotate_left
      · (intro w hSw; (try dsimp only at hSw); go_simp; try with_reducible rfl)
      try simp only [Act.put, List.setIfInBounds_toArray, List.set_cons_zero, List.set_cons_succ]
      refine lex_take (i := 21) (v := ?_) rfl (by kernel_rfl) (by kernel_rfl) (by kernel_rfl) (fun _ _ _ h => h) (by rfl) ?_ (by assumption) ?_
      rotate_left
      · (intro w hSw; (try dsimp only at hSw); go_simp; try with_reducible rfl)
      try simp only [Act.put, List.setIfInBounds_toArray, List.set_cons_zero, List.set_cons_succ]
      refine lex_take (i := 22) (v := ?_) rfl (by kernel_rfl) (by kernel_rfl) (by kernel_rfl) (fun _ _ _ h => h) (by rfl) ?_ (by assumption) ?_
      rotate_left
      · (intro w hSw; (try dsimp only at hSw); go_simp; try with_reducible rfl)
      try simp only [Act.put, List.setIfInBounds_toArray, List.set_cons_zero, List.set_cons_succ]
      refine lex_take (i := 23) (v := ?_) rfl (by kernel_rfl) (by kernel_rfl) (by kernel_rfl) (fun _ _ _ h => h) (by rfl) ?_ (by assumption) ?_
      rotate_left
      · (intro w hSw; (try dsimp only at hSw); go_simp; try with_reducible rfl)
      try simp only [Act.put, List.setIfInBounds_toArray, List.set_cons_zero, List.set_cons_succ]
      refine lex_take (i := 24) (v := ?_) rfl (by kernel_rfl) (by kernel_rfl) (by kernel_rfl) (fun _ _ _ h => h) (by rfl) ?_ (by assumption) ?_
      rotate_left
      · (intro w hSw; (try dsimp only at hSw); go_simp; try with_reducible rfl)
      try simp only [Act.put, List.setIfInBounds_toArray, List.set_cons_zero, List.set_cons_succ]
      refine lex_take (i := 25) (v := ?_) rfl (by kernel_rfl) (by kernel_rfl) (by kernel_rfl) (fun _ _ _ h => h) (by rfl) ?_ (by assumption) ?_
      rotate_left
      · (intro w hSw; (try dsimp only at hSw); go_simp; try with_reducible rfl)
      try simp only [Act.put, List.setIfInBounds_toArray, List.set_cons_zero, List.set_cons_succ]
      refine lex_take (i := 26) (v := ?_) rfl (by kernel_rfl) (by kernel_rfl) (by kernel_rfl) (fun _ _ _ h => h) (by rfl) ?_ (by assumption) ?_
      rotate_left
      · (intro w hSw; (try dsimp only at hSw); go_simp; try with_reducible rfl)
      try simp only [Act.put, List.setIfInBounds_toArray, List.set_cons_zero, List.set_cons_succ]
      refine lex_take (i := 27) (v := ?_) rfl (by kernel_rfl) (by kernel_rfl) (by kernel_rfl) (fun _ _ _ h => h) (by rfl) ?_ (by assumption) ?_
      rotate_left
      · (intro w hSw; (try dsimp only at hSw); go_simp; try with_reducible rfl)
      try simp only [Act.put, List.setIfInBounds_toArray, List.set_cons_zero, List.set_cons_succ]
      refine lex_take (i := 28) (v := ?_) rfl (by kernel_rfl) (by kernel_rfl) (by kernel_rfl) (fun _ _ _ h => h) (by rfl) ?_ (by assumption) ?_
      rotate_left
      · (intro w hSw; (try dsimp only at hSw); go_simp; try with_reducible rfl)
      try simp only [Act.put, List.setIfInBounds_toArray, List.set_cons_zero, List.set_cons_succ]
      refine lex_take (i := 29) (v := ?_) rfl (by kernel_rfl) (by kernel_rfl) (by kernel_rfl) (fun _ _ _ h => h) (by rfl) ?_ (by assumption) ?_
      rotate_left
      · (intro w hSw; (try dsimp only at hSw); go_simp; try with_reducible rfl)
      try simp only [Act.put, List.setIfInBounds_toArray, List.set_cons_zero, List.set_cons_succ]
      refine lex_take (i := 31) (v := ?_) rfl (by kernel_rfl) (by kernel_rfl) (by kernel_rfl) (fun _ _ _ h => h) (by rfl) ?_ (by assumption) ?_
      rotate_left
      · (intro w hSw; (try dsimp only at hSw); go_simp; try with_reducible rfl)
      try simp only [Act.put, List.setIfInBounds_toArray, List.set_cons_zero, List.set_cons_succ]
      refine lex_take (i := 32) (v := ?_) rfl (by kernel_rfl) (by kernel_rfl) (by kernel_rfl) (fun _ _ _ h => h) (by rfl) ?_ (by assumption) ?_
      rotate_left
      · (intro w hSw; (try dsimp only at hSw); go_simp; try with_reducible rfl)
      try simp only [Act.put, List.setIfInBounds_toArray, List.set_cons_zero, List.set_cons_succ]
      refine lex_step (i := 6) rfl (by kernel_rfl) (by rfl) (fun Kx hKx => ?_)
      go_simp
      go_at_call 31; (with_reducible refine (ref_Floor _ _ _ (by omega) (by omega) (by omega) (by omega)).mono ?_); rintro e w' ⟨rfl, hw⟩; subst hw
      try go_wp2_with fail
      refine hKx.out _ _ ?_ (fun hHeld => ?_)
      · (try dsimp only); first | exact KW.out _ (Below.refl _ _).drew | exact KW.out _ (below_then (lastN_rf (by assumption)) (by assumption)) | exact KW.out _ (below_new (lastN_rf (by assumption)) _) | exact KW.out _ (below_new (Below.refl _ _) _).drew
      clear hKx Kx
      try simp only [Act.put, List.setIfInBounds_toArray, List.set_cons_zero, List.set_cons_succ]
      refine lex_step (i := 10) rfl (by kernel_rfl) (by rfl) (fun Kx hKx => ?_)
      go_simp
      go_at_call 31; (with_reducible refine (ref_Floor _ _ _ (by omega) (by omega) (by omega) (by omega)).mono ?_); rintro e w' ⟨rfl, hw⟩; subst hw
      try go_wp2_with fail
      refine hKx.out _ _ ?_ (fun hHeld => ?_)
      · (try dsimp only); first | exact KW.out _ (Below.refl _ _).drew | exact KW.out _ (below_then (lastN_rf (by assumption)) (by assumption)) | exact KW.out _ (below_new (lastN_rf (by assumption)) _) | exact KW.out _ (below_new (Below.refl _ _) _).drew
      clear hKx Kx
      try simp only [Act.put, List.setIfInBounds_toArray, List.set_cons_zero, List.set_cons_succ]
      refine lex_take (i := 11) (v := ?_) rfl (by kernel_rfl) (by kernel_rfl) (by kernel_rfl) (fun _ _ _ h => h) (by rfl) ?_ (by assumption) ?_
      rotate_left
      · (intro w hSw; (try dsimp only at hSw); go_simp; try with_reducible rfl)
      try simp only [Act.put, List.setIfInBounds_toArray, List.set_cons_zero, List.set_cons_succ]
      refine lex_step (i := 30) rfl (by kernel_rfl) (by rfl) (fun Kx hKx => ?_)
      go_simp
      try go_wp2_with fail
      refine hKx.out _ _ ?_ (fun hHeld => ?_)
      · (try dsimp only); first | exact KW.out _ (Below.refl _ _).drew | exact KW.out _ (below_then (lastN_rf (by assumption)) (by assumption)) | exact KW.out _ (below_new (lastN_rf (by assumption)) _) | exact KW.out _ (below_new (Below.refl _ _) _).drew
      clear hKx Kx
      try simp only [Act.put, List.setIfInBounds_toArray, List.set_cons_zero, List.set_cons_succ]
      refine lex_take (i := 33) (v := ?_) rfl (by kernel_rfl) (by kernel_rfl) (by kernel_rfl) (fun _ _ _ h => h) (by rfl) ?_ (by assumption) ?_
      rotate_left
      · (intro w hSw; (try dsimp only at hSw); go_simp; try with_reducible rfl)
      try simp only [Act.put, List.setIfInBounds_toArray, List.set_cons_zero, List.set_cons_succ]
      refine lex_step (i := 34) rfl (by kernel_rfl) (by rfl) (fun Kx hKx => ?_)
      go_simp
      try go_wp2_with fail
      refine hKx.out _ _ ?_ (fun hHeld => ?_)
      · (try dsimp only); first | exact KW.out _ (Below.refl _ _).drew | exact KW.out _ (below_then (lastN_rf (by assumption)) (by assumption)) | exact KW.out _ (below_new (lastN_rf (by assumption)) _) | exact KW.out _ (below_new (Below.refl _ _) _).drew
      clear hKx Kx
      try simp only [Act.put, List.setIfInBounds_toArray, List.set_cons_zero, List.set_cons_succ]
      refine lex_take (i := 35) (v := ?_) rfl (by kernel_rfl) (by kernel_rfl) (by kernel_rfl) (fun _ _ _ h => h) (by rfl) ?_ (by assumption) ?_
      rotate_left
      · (intro w hSw; (try dsimp only at hSw); go_simp; try with_reducible rfl)
      try simp only [Act.put, List.setIfInBounds_toArray, List.set_cons_zero, List.set_cons_succ]
      refine wpAnyH_done (by kernel_rfl) ?_ _
      go_wp2_with fail
      go_meet
      case rel => exact ⟨by rw [HD.out]; unfold unitOf; congr 1; (try simp); (try omega), lastN_rf (by assumption)⟩
  case rest =>
  obtain ⟨rfl, hbc⟩ := hcut
  obtain ⟨q0, q5, q6⟩ := KA.out wc hbc
  have y0 : wc.cell? ⟨w.heap.size, 0, none⟩ = some (.int .i64 u) := q0.cell 0; have y1 : wc.cell? ⟨w.heap.size, 1, none⟩ = some (.int .i64 ev) := q0.cell 1; have y2 : wc.cell? ⟨w.heap.size, 2, none⟩ = some (.int .i64 f) := q0.cell 2; have y3 : wc.cell? ⟨w.heap.size, 3, none⟩ = some (.int .i64 cn) := q0.cell 3; have y4 : wc.cell? ⟨w.heap.size, 4, none⟩ = some (.int .i64 un) := q0.cell 4; have y5 : wc.cell? ⟨w.heap.size, 5, none⟩ = some (.slice a1 n1 c1) := q0.cell 5; have y6 : wc.cell? ⟨w.heap.size, 6, none⟩ = some (.slice a2 n2 c2) := q0.cell 6; have y7 : wc.cell? ⟨w.heap.size, 7, none⟩ = some (.slice a3 n3 c3) := q0.cell 7; have y8 : wc.cell? ⟨mb, 0, none⟩ = some (.int .i64 (gY f)) := q5.cell 0; have y9 : wc.cell? ⟨mb, 1, none⟩ = some (.int .i64 (gM f)) := q5.cell 1; have y10 : wc.cell? ⟨mb, 2, none⟩ = some (.int .i64 (gD f)) := q5.cell 2; have y11 : wc.cell? ⟨(mb + 1), 0, none⟩ = some (.int .i64 (gY x)) := q6.cell 0; have y12 : wc.cell? ⟨(mb + 1), 1, none⟩ = some (.int .i64 (gM x)) := q6.cell 1; have y13 : wc.cell? ⟨(mb + 1), 2, none⟩ = some (.int .i64 (gD x)) := q6.cell 2
  have HBC := Lib.hid hbc
  clear hm0 hm1 hm2 hm3 hm4 hm5 hm6 hm7 hm8 hm9 KW q0 q5 q6 hbc
  have HI1 := Lib.hid (H1.out.far B0.out HBC.out); have HI2 := Lib.hid (H2.out.far B0.out HBC.out); have HI3 := Lib.hid (H3.out.far B0.out HBC.out)
  go_wp2_with fail
  refine (ref_Mod _ _ _ (by omega) (by omega) (by omega) (by omega)).mono ?_
  rintro e w4 ⟨rfl, rfl⟩
  by_cases hz : D % ev = 0
  case neg =>
    have hz' : (D % ev == 0) = false := by simpa using hz
    have HZ := Lib.hid hz
    clear hz
    go_wp2_with fail
    go_ret
    exact ⟨ret_bool (by rw [RF.out, decide_eq_false HZ.out]; rfl), below_then B0.out HBC.out⟩
  have hz' : (D % ev == 0) = true := by simpa using hz
  have hRF := RF.out
  rw [decide_eq_true hz, Bool.true_and] at hRF
  have RF2 := Lib.hid hRF
  clear hRF hz RF
  have CN : ∀ n, Calls Try.prog 38 #[.slice a3 n3 c3, .int .i64 (gM x)] (wc.drewN n) fun e w' => e = .returned (.bool hN) ∧ wc.drewN n = w' := fun n => by rw [HN.out]; exact ref_has _ _ _ _ ns _ _ (HI3.out.drewN n)
  have CW : ∀ n, Calls Try.prog 38 #[.slice a1 n1 c1, .int .i64 ((x - 1) % 7)] (wc.drewN n) fun e w' => e = .returned (.bool hW) ∧ wc.drewN n = w' := fun n => by rw [HW.out]; exact ref_has _ _ _ _ ws _ _ (HI1.out.drewN n)
  have CK : ∀ (z : Int) (n : Nat), -4000000 ≤ z → z ≤ 4000000 → Calls Try.prog 18 #[.int .i64 z] (wc.drewN n) fun e w' => e = .returned (.int .i64 ((z - 1) % 7)) ∧ wc.drewN n = w' := fun z n h1 h2 => by
    have e : (z - 1) % 7 = (z + 6) % 7 := by omega
    rw [e]; exact ref_Week z _ (by omega) (by omega)
  have CN := Lib.hid CN; have CW := Lib.hid CW; have CK := Lib.hid CK
  obtain ⟨P, hP⟩ : ∃ P, P = ((decide (0 < n3) && !hN) || (decide (0 < n1) && !hW)) := ⟨_, rfl⟩
  have RF3 := Lib.hid (show E = (!P && L) by rw [RF2.out, hP]; cases decide (0 < n3) <;> cases decide (0 < n1) <;> cases hN <;> cases hW <;> simp)
  have HP := Lib.hid hP
  clear RF2 hP
  go_upto_if 87 with fail
  go_cut [87] from 62 (fun v wx => v = .bool P ∧ Below wc.heap.size wc wx)
  case first =>
    rcases Nat.eq_zero_or_pos n3 with rfl | hn3
    · rcases Nat.eq_zero_or_pos n1 with rfl | hn1
      · go_quiet ((first | (go_at_call 38; first | (with_reducible exact quiet_left (CN.out _)) | (with_reducible exact quiet_add_left (CN.out _)) | (with_reducible exact quiet_left (CW.out _)) | (with_reducible exact quiet_add_left (CW.out _))) | (go_at_call 18; first | (with_reducible exact quiet_left (CK.out x _ hx1 hx2)) | (with_reducible exact quiet_add_left (CK.out x _ hx1 hx2)))))
        go_wp2_with fail
        go_meet
        case rel => exact ⟨by rw [HP.out]; simp, by (repeat' (first | exact Below.refl _ _ | assumption | refine Below.drew ?_ | refine below_drewN ?_ _ | refine below_new ?_ _ | refine below_set ?_ ?_ _ | refine below_then ?_ (by assumption) | refine below_drawn ?_ (by assumption) | exact Nat.le_refl _ | omega | (simp; done) | (simp; omega)))⟩
      · have g1 : decide ((0 : Int) < (n1 : Int)) = true := decide_eq_true (by omega)
        have g1' : decide (0 < n1) = true := decide_eq_true (by omega)
        clear hn1
        go_quiet ((first | (go_at_call 38; first | (with_reducible exact quiet_left (CN.out _)) | (with_reducible exact quiet_add_left (CN.out _)) | (with_reducible exact quiet_left (CW.out _)) | (with_reducible exact quiet_add_left (CW.out _))) | (go_at_call 18; first | (with_reducible exact quiet_left (CK.out x _ hx1 hx2)) | (with_reducible exact quiet_add_left (CK.out x _ hx1 hx2)))))
        go_wp2_with fail
        go_meet
        case rel => exact ⟨by rw [HP.out]; simp [g1'], by (repeat' (first | exact Below.refl _ _ | assumption | refine Below.drew ?_ | refine below_drewN ?_ _ | refine below_new ?_ _ | refine below_set ?_ ?_ _ | refine below_then ?_ (by assumption) | refine below_drawn ?_ (by assumption) | exact Nat.le_refl _ | omega | (simp; done) | (simp; omega)))⟩
    · have g3 : decide ((0 : Int) < (n3 : Int)) = true := decide_eq_true (by omega)
      have g3' : decide (0 < n3) = true := decide_eq_true (by omega)
      clear hn3
      cases hN with
      | false =>
        go_quiet ((first | (go_at_call 38; first | (with_reducible exact quiet_left (CN.out _)) | (with_reducible exact quiet_add_left (CN.out _)) | (with_reducible exact quiet_left (CW.out _)) | (with_reducible exact quiet_add_left (CW.out _))) | (go_at_call 18; first | (with_reducible exact quiet_left (CK.out x _ hx1 hx2)) | (with_reducible exact quiet_add_left (CK.out x _ hx1 hx2)))))
        go_wp2_with fail
        go_meet
        case rel => exact ⟨by rw [HP.out]; simp [g3'], by (repeat' (first | exact Below.refl _ _ | assumption | refine Below.drew ?_ | refine below_drewN ?_ _ | refine below_new ?_ _ | refine below_set ?_ ?_ _ | refine below_then ?_ (by assumption) | refine below_drawn ?_ (by assumption) | exact Nat.le_refl _ | omega | (simp; done) | (simp; omega)))⟩
      | true =>
        rcases Nat.eq_zero_or_pos n1 with rfl | hn1
        · go_quiet ((first | (go_at_call 38; first | (with_reducible exact quiet_left (CN.out _)) | (with_reducible exact quiet_add_left (CN.out _)) | (with_reducible exact quiet_left (CW.out _)) | (with_reducible exact quiet_add_left (CW.out _))) | (go_at_call 18; first | (with_reducible exact quiet_left (CK.out x _ hx1 hx2)) | (with_reducible exact quiet_add_left (CK.out x _ hx1 hx2)))))
          go_wp2_with fail
          go_meet
          case rel => exact ⟨by rw [HP.out]; simp [g3'], by (repeat' (first | exact Below.refl _ _ | assumption | refine Below.drew ?_ | refine below_drewN ?_ _ | refine below_new ?_ _ | refine below_set ?_ ?_ _ | refine below_then ?_ (by assumption) | refine below_drawn ?_ (by assumption) | exact Nat.le_refl _ | omega | (simp; done) | (simp; omega)))⟩
        · have g1 : decide ((0 : Int) < (n1 : Int)) = true := decide_eq_true (by omega)
          have g1' : decide (0 < n1) = true := decide_eq_true (by omega)
          clear hn1
          go_quiet ((first | (go_at_call 38; first | (with_reducible exact quiet_left (CN.out _)) | (with_reducible exact quiet_add_left (CN.out _)) | (with_reducible exact quiet_left (CW.out _)) | (with_reducible exact quiet_add_left (CW.out _))) | (go_at_call 18; first | (with_reducible exact quiet_left (CK.out x _ hx1 hx2)) | (with_reducible exact quiet_add_left (CK.out x _ hx1 hx2)))))
          go_wp2_with fail
          go_meet
          case rel => exact ⟨by rw [HP.out]; simp [g1', g3'], by (repeat' (first | exact Below.refl _ _ | assumption | refine Below.drew ?_ | refine below_drewN ?_ _ | refine below_new ?_ _ | refine below_set ?_ ?_ _ | refine below_then ?_ (by assumption) | refine below_drawn ?_ (by assumption) | exact Nat.le_refl _ | omega | (simp; done) | (simp; omega)))⟩
  case rest =>
  obtain ⟨rfl, hb7⟩ := hcut
  have bd := HBC.out.trans (hb7.mono HBC.out.size)
  clear y0 y1 y2 y3 y4 y5 y6 y7 y8 y9 y10 y11 y12 y13 hb7 CN CW CK HI1 HI2 HI3
  obtain ⟨q0, q5, q6⟩ := KA.out _ bd
  have y0 : wc.cell? ⟨w.heap.size, 0, none⟩ = some (.int .i64 u) := q0.cell 0; have y1 : wc.cell? ⟨w.heap.size, 1, none⟩ = some (.int .i64 ev) := q0.cell 1; have y2 : wc.cell? ⟨w.heap.size, 2, none⟩ = some (.int .i64 f) := q0.cell 2; have y3 : wc.cell? ⟨w.heap.size, 3, none⟩ = some (.int .i64 cn) := q0.cell 3; have y4 : wc.cell? ⟨w.heap.size, 4, none⟩ = some (.int .i64 un) := q0.cell 4; have y5 : wc.cell? ⟨w.heap.size, 5, none⟩ = some (.slice a1 n1 c1) := q0.cell 5; have y6 : wc.cell? ⟨w.heap.size, 6, none⟩ = some (.slice a2 n2 c2) := q0.cell 6; have y7 : wc.cell? ⟨w.heap.size, 7, none⟩ = some (.slice a3 n3 c3) := q0.cell 7; have y8 : wc.cell? ⟨mb, 0, none⟩ = some (.int .i64 (gY f)) := q5.cell 0; have y9 : wc.cell? ⟨mb, 1, none⟩ = some (.int .i64 (gM f)) := q5.cell 1; have y10 : wc.cell? ⟨mb, 2, none⟩ = some (.int .i64 (gD f)) := q5.cell 2; have y11 : wc.cell? ⟨(mb + 1), 0, none⟩ = some (.int .i64 (gY x)) := q6.cell 0; have y12 : wc.cell? ⟨(mb + 1), 1, none⟩ = some (.int .i64 (gM x)) := q6.cell 1; have y13 : wc.cell? ⟨(mb + 1), 2, none⟩ = some (.int .i64 (gD x)) := q6.cell 2
  have BD := Lib.hid bd
  clear q0 q5 q6
  cases P with
  | true =>
    go_wp2_with fail
    go_ret
    exact ⟨ret_bool (by rw [RF3.out]; rfl), below_then B0.out BD.out⟩
  | false =>
  have hk0 : IntKind.i64.wrap (x + 1) = x + 1 := IntWalk.i64_in _ (by omega)
  go_wp2_with fail
  go_loopw [8, 9] (fun lv kv wr => ∃ j : Nat, lv = .int .i64 (-1 - (j : Int)) ∧ kv = .int .i64 (x + 1 + (j : Int)) ∧ (j : Int) ≤ mlen x - gD x ∧ Below W0.heap.size W0 wr) (fun lv _ _ => (100 + intOf lv).toNat)
  case atStart => exact ⟨0, by simp, by simp, by omega, BD.out⟩
  case round =>
    obtain ⟨j, rfl, rfl, hj, hbr⟩ := hrel
    have HBR := Lib.hid hbr
    clear y0 y1 y2 y3 y4 y5 y6 y7 y8 y9 y10 y11 y12 y13 hbr
    have hlr := HBR.out.size
    have hk1 : IntKind.i64.wrap (x + 1 + (j : Int) + 1) = x + 1 + (j : Int) + 1 := IntWalk.i64_in _ (by omega)
    have hk2 : IntKind.i64.wrap (-1 - (j : Int) - 1) = -1 - (j : Int) - 1 := IntWalk.i64_in _ (by omega)
    by_cases hlt : (j : Int) < mlen x - gD x
    · have hsame := month_same x (1 + (j : Int)) (by omega) (by omega)
      rw [← Int.add_assoc] at hsame
      have GC := Lib.hid (show ∀ W, Calls Try.prog 17 #[.int .i64 (x + 1 + (j : Int))] W fun e w' => e = .returned (.agg #[.int .i64 (gY (x + 1 + (j : Int))), .int .i64 (gM x), .int .i64 (gD (x + 1 + (j : Int)))]) ∧ Below W.heap.size W w' from fun W => by rw [← hsame]; exact ref_Greg _ W (by omega) (by omega))
      clear hsame
      go_upto_region 11 with fail
      (refine region_class (Below W0.heap.size W0) (by kernel_rfl) (by kernel_rfl) (HBR.out.drew) ?_; repeat ((first | (refine class_take ?_ (by rfl) ?_ ?_; rotate_left; focus (intro wq hq; ((obtain ⟨z0, z5, z6⟩ := KA.out _ hq; have fld := date_month; have zz : wq.cell? ⟨mb + 1, 1, none⟩ = some (.int .i64 (gM x)) := z6.cell 1)); go_simp; first | done | with_reducible rfl | ((go_at_call 17; (with_reducible refine (GC.out _).mono ?_); rintro e w5 ⟨rfl, hb⟩; refine ⟨?_, below_then hq hb⟩; with_reducible rfl)))) | refine class_skip (by rfl) ?_); try simp only [Act.put, List.setIfInBounds_toArray, List.set_cons_zero, List.set_cons_succ]))
      refine wpQuiet_nil ?_
      intro W4 hb4
      have HB4 := Lib.hid hb4
      clear hb4
      go_wp2_with fail
      go_roundw
      case rel => exact ⟨j + 1, by congr 1; omega, by congr 1; omega, by omega, HB4.out⟩
      case measure => simp [intOf]; omega
    · have hne := month_next x
      have hje : x + (mlen x - gD x) + 1 = x + 1 + (j : Int) := by omega
      rw [hje] at hne
      have hne' : (gM (x + 1 + (j : Int)) == gM x) = false := by simpa using hne
      have LV := Lib.hid (show -1 - (j : Int) = gD x - mlen x - 1 by omega)
      clear hne hje
      have GC := Lib.hid (show ∀ W, Calls Try.prog 17 #[.int .i64 (x + 1 + (j : Int))] W fun e w' => e = .returned (.agg #[.int .i64 (gY (x + 1 + (j : Int))), .int .i64 (gM (x + 1 + (j : Int))), .int .i64 (gD (x + 1 + (j : Int)))]) ∧ Below W.heap.size W w' from fun W => ref_Greg _ W (by omega) (by omega))
      go_upto_region 11 with fail
      (refine region_class (Below W0.heap.size W0) (by kernel_rfl) (by kernel_rfl) (HBR.out.drew) ?_; repeat ((first | (refine class_take ?_ (by rfl) ?_ ?_; rotate_left; focus (intro wq hq; ((obtain ⟨z0, z5, z6⟩ := KA.out _ hq; have fld := date_month; have zz : wq.cell? ⟨mb + 1, 1, none⟩ = some (.int .i64 (gM x)) := z6.cell 1)); go_simp; first | done | with_reducible rfl | ((go_at_call 17; (with_reducible refine (GC.out _).mono ?_); rintro e w5 ⟨rfl, hb⟩; refine ⟨?_, below_then hq hb⟩; with_reducible rfl)))) | refine class_skip (by rfl) ?_); try simp only [Act.put, List.setIfInBounds_toArray, List.set_cons_zero, List.set_cons_succ]))
      refine wpQuiet_nil ?_
      intro W4 hb4
      have HB4 := Lib.hid hb4
      obtain ⟨q0, q5, q6⟩ := KA.out _ hb4
      clear hb4
      have RF4 := Lib.hid (show E = L by rw [RF3.out]; rfl)
      have y0 : W4.cell? ⟨w.heap.size, 0, none⟩ = some (.int .i64 u) := q0.cell 0; have y1 : W4.cell? ⟨w.heap.size, 1, none⟩ = some (.int .i64 ev) := q0.cell 1; have y2 : W4.cell? ⟨w.heap.size, 2, none⟩ = some (.int .i64 f) := q0.cell 2; have y3 : W4.cell? ⟨w.heap.size, 3, none⟩ = some (.int .i64 cn) := q0.cell 3; have y4 : W4.cell? ⟨w.heap.size, 4, none⟩ = some (.int .i64 un) := q0.cell 4; have y5 : W4.cell? ⟨w.heap.size, 5, none⟩ = some (.slice a1 n1 c1) := q0.cell 5; have y6 : W4.cell? ⟨w.heap.size, 6, none⟩ = some (.slice a2 n2 c2) := q0.cell 6; have y7 : W4.cell? ⟨w.heap.size, 7, none⟩ = some (.slice a3 n3 c3) := q0.cell 7; have y8 : W4.cell? ⟨mb, 0, none⟩ = some (.int .i64 (gY f)) := q5.cell 0; have y9 : W4.cell? ⟨mb, 1, none⟩ = some (.int .i64 (gM f)) := q5.cell 1; have y10 : W4.cell? ⟨mb, 2, none⟩ = some (.int .i64 (gD f)) := q5.cell 2; have y11 : W4.cell? ⟨(mb + 1), 0, none⟩ = some (.int .i64 (gY x)) := q6.cell 0; have y12 : W4.cell? ⟨(mb + 1), 1, none⟩ = some (.int .i64 (gM x)) := q6.cell 1; have y13 : W4.cell? ⟨(mb + 1), 2, none⟩ = some (.int .i64 (gD x)) := q6.cell 2
      clear q0 q5 q6
      have HI2 := Lib.hid (H2.out.far B0.out HB4.out)
      rcases Nat.eq_zero_or_pos n2 with rfl | hn2
      · rcases Nat.eq_zero_or_pos n1 with rfl | hn1
        · rcases (show u = 1 ∨ u = 2 ∨ u = 3 ∨ u = 4 by omega) with rfl | rfl | rfl | rfl
          · go_wp2_with fail
            go_ret
            exact ⟨ret_bool (by rw [RF4.out, HL.out]; simp), below_then B0.out HB4.out⟩
          · go_upto_region 20 with fail
            have CK := Lib.hid (show ∀ (z : Int) (n : Nat), -4000000 ≤ z → z ≤ 4000000 → Calls Try.prog 18 #[.int .i64 z] (W4.drewN n) fun e w' => e = .returned (.int .i64 ((z - 1) % 7)) ∧ W4.drewN n = w' from fun z n h1 h2 => by
              have e : (z - 1) % 7 = (z + 6) % 7 := by omega
              rw [e]; exact ref_Week z _ (by omega) (by omega))
            go_quiet ((go_at_call 18; first | (with_reducible exact quiet_left (CK.out x _ hx1 hx2)) | (with_reducible exact quiet_add_left (CK.out x _ hx1 hx2)) | (with_reducible exact quiet_left (CK.out f _ o5 o6)) | (with_reducible exact quiet_add_left (CK.out f _ o5 o6))))
            go_wp2_with fail
            go_ret
            exact ⟨ret_bool (by rw [RF4.out, HL.out]; simp), below_drewN (below_then B0.out HB4.out) _⟩
          · go_wp2_with fail
            go_ret
            exact ⟨ret_bool (by rw [RF4.out, HL.out]; simp), below_then B0.out HB4.out⟩
          · have h24 := HL.out
            rw [if_neg (by omega), if_neg (by omega), if_neg (by omega), if_neg (by omega), if_pos rfl] at h24
            cases hdd : (gD x == gD f)
            · rw [hdd] at h24
              have HL4 := Lib.hid h24
              clear h24
              go_wp2_with fail
              go_ret
              exact ⟨ret_bool (by rw [RF4.out, HL4.out]; rfl), below_then B0.out HB4.out⟩
            · rw [hdd] at h24
              rcases Nat.eq_zero_or_pos n3 with rfl | hn3
              · have HL4 := Lib.hid h24
                clear h24
                go_wp2_with fail
                go_ret
                exact ⟨ret_bool (by rw [RF4.out, HL4.out]; rfl), below_then B0.out HB4.out⟩
              · have g3 : decide ((0 : Int) < (n3 : Int)) = true := decide_eq_true (by omega)
                have g3' : decide (0 < n3) = true := decide_eq_true hn3
                rw [decide_eq_true hn3] at h24
                have HL4 := Lib.hid h24
                clear h24
                go_wp2_with fail
                go_ret
                exact ⟨ret_bool (by rw [RF4.out, HL4.out]; rfl), below_then B0.out HB4.out⟩
        · go_wp2_with fail
          go_ret
          exact ⟨ret_bool (by rw [RF4.out, HL.out, if_neg (by omega), if_pos (by omega)]), below_then B0.out HB4.out⟩
      · have h24 := HL.out
        rw [if_pos hn2] at h24
        obtain ⟨hA, hhA⟩ : ∃ b, b = hasB (gD x) ms := ⟨_, rfl⟩
        obtain ⟨hB, hhB⟩ : ∃ b, b = hasB (gD x - mlen x - 1) ms := ⟨_, rfl⟩
        rw [← hhA, ← hhB] at h24
        have HL4 := Lib.hid h24
        have CA := Lib.hid (show Calls Try.prog 38 #[.slice a2 n2 c2, .int .i64 (gD x)] W4 fun e w' => e = .returned (.bool hA) ∧ W4 = w' by rw [hhA]; exact ref_has _ _ _ _ ms _ _ HI2.out)
        have CB := Lib.hid (show Calls Try.prog 38 #[.slice a2 n2 c2, .int .i64 (-1 - (j : Int))] W4 fun e w' => e = .returned (.bool hB) ∧ W4 = w' by rw [hhB, LV.out]; exact ref_has _ _ _ _ ms _ _ HI2.out)
        clear h24 hhA hhB
        cases hA with
        | true =>
          go_wp2_with (go_at_call 38; (with_reducible refine CA.out.mono ?_); rintro e w' ⟨rfl, rfl⟩)
          go_ret
          exact ⟨ret_bool (by rw [RF4.out, HL4.out]; rfl), below_then B0.out HB4.out⟩
        | false =>
          go_wp2_with (go_at_call 38; first | ((with_reducible refine CA.out.mono ?_); rintro e w' ⟨rfl, rfl⟩) | ((with_reducible refine CB.out.mono ?_); rintro e w' ⟨rfl, rfl⟩))
          go_ret
          exact ⟨ret_bool (by rw [RF4.out, HL4.out]; rfl), below_then B0.out HB4.out⟩
end Go.Proofs.Ythejjpnljdphnaa
