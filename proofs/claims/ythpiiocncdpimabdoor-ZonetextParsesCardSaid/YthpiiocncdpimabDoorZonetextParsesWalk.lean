/- ZonetextParses: the Go text returns true at every input, and writes nothing that was there. -/
import Derived.Test.YthpiiocncdpimabDoorRows
import Derived.Test.YthpiiocncdpimabDoorZrd5
import Derived.Test.YthpiiocncdpimabDoorZoneBase
import Derived.Test.YthpiiocncdpimabDoorLaid
import Derived.Test.YthpiiocncdpimabDoorLex
namespace Go.Proofs.YthpiiocncdpimabDoor.zonetextParsesLaw
set_option linter.unusedVariables false
set_option linter.unusedSimpArgs false
set_option maxRecDepth 100000
open Go.RowKit Go.ChangeShapes Go.WideShapes Go.Shelf Num

abbrev baseL : List UInt8 := [122, 111, 110, 101, 32, 98, 97, 115, 101, 32, 43, 48, 49, 58, 48, 48, 58, 48, 48, 10, 97, 116, 32, 48, 32, 48, 32, 43, 48, 50, 58, 48, 48, 58, 48, 48, 32, 83, 85, 77, 10]
theorem base_read : readO baseL = ((⟨#[98, 97, 115, 101]⟩, 3600000, baseChg), 0, 0) := by decide +kernel
set_option maxHeartbeats 16000000 in
theorem core (w : World) (S0 : ByteArray) (hS : S0.size ≤ 140737488355328) (hp : Pow w) (he : Errs w) (hM : ∃ m : Int, w.cell? ⟨0, 0, none⟩ = some (.int .i64 m)) :
    Calls Tryd.prog 3 #[.string S0] w fun e w' => e = .returned (.bool true) ∧ Below w.heap.size w w' := by
  obtain ⟨m, hm⟩ := hM
  obtain ⟨S, rfl⟩ : ∃ S : List UInt8, S0 = ⟨S.toArray⟩ := ⟨S0.data.toList, by simp⟩
  have hSl : S.length ≤ 140737488355328 := by have := bS_size S; omega
  have HP := Lib.hid hp; have HE := Lib.hid he; have HM := Lib.hid hm
  have CP := Lib.hid (show Calls Tryd.prog 5 #[.string ⟨baseL.toArray⟩] w (ZonePost ((⟨#[98, 97, 115, 101]⟩, 3600000, baseChg), 0, 0) w) from by
    have h := zt_Parse w baseL m hm (by decide) hp he
    rw [base_read] at h
    exact h)
  clear hp he hm
  go_enter Tryd.func3, Tryd.ntmps3
  go_upto_region 1 with fail
  go_cut [3, 4, 5] from 12 to 16 (fun v3 v4 v5 wx => ∃ (a : Option Addr) (c T1 : Nat), v3 = .pointer (some ⟨T1, 0, none⟩) ∧ v4 = .int .i64 0 ∧ v5 = .int .i64 0 ∧ At wx T1 (.cells #[.string ⟨#[98, 97, 115, 101]⟩, .int .i64 3600000, .slice a 1 c] 24) ∧ Changes wx wx.heap.size a 1 baseChg ∧ Below w.heap.size w wx)
  case first =>
    go_wp2_with fail
    refine CP.out.mono ?_
    rintro e w1 ⟨a, c, he, hch, hb1⟩
    obtain rfl : e = .returned (.tuple #[.agg #[.string ⟨#[98, 97, 115, 101]⟩, .int .i64 3600000, .slice a 1 c], .int .i64 0, .int .i64 0]) := he
    obtain ⟨T1, hT1⟩ : ∃ b, b = w1.heap.size := ⟨_, rfl⟩
    have X1 := Lib.hid (At.newAt w1 (.cells #[.string ⟨#[98, 97, 115, 101]⟩, .int .i64 3600000, .slice a 1 c] 24) T1 hT1)
    have B1 := Lib.hid (below_new hb1 (.cells #[.string ⟨#[98, 97, 115, 101]⟩, .int .i64 3600000, .slice a 1 c] 24))
    have V1 := Lib.hid (show Changes _ _ a 1 baseChg from hch.then_ (below_new (Below.refl w1.heap.size w1) (.cells #[.string ⟨#[98, 97, 115, 101]⟩, .int .i64 3600000, .slice a 1 c] 24)))
    clear hch hb1 CP
    go_wp2_with fail
    go_meet
    case rel => exact ⟨a, c, _, rfl, rfl, rfl, by rw [← hT1]; exact X1.out, V1.out, B1.out⟩
  case rest =>
    obtain ⟨a, c, T1, rfl, rfl, rfl, x1, v1, b1⟩ := hcut
    have X1 := Lib.hid x1; have V1 := Lib.hid v1; have B1 := Lib.hid b1
    clear x1 v1 b1 CP
    obtain ⟨W2, hW2⟩ : ∃ W, W = wc := ⟨_, rfl⟩
    rw [← hW2] at X1 V1 B1 ⊢
    clear hW2
    go_upto_region 2 with fail
    go_cut [28] from 17 to 28 (fun v wx => v = .bool false ∧ Below W2.heap.size W2 wx)
    case first =>
      have KK := Lib.hid (fun (w' : World) (hW : Below W2.heap.size W2 w') => show w'.cell? ⟨T1, 0, none⟩ = some (.string ⟨#[98, 97, 115, 101]⟩) ∧ w'.cell? ⟨T1, 1, none⟩ = some (.int .i64 3600000) ∧ w'.cell? ⟨T1, 2, none⟩ = some (.slice a 1 c) ∧ T1 < w'.heap.size ∧ Below W2.heap.size W2 w' from by have r := X1.out.then_ hW; exact ⟨r.cell 0, r.cell 1, r.cell 2, r.lt, hW⟩)
      refine wp_region_held_drew (S := (fun w' => w'.cell? ⟨T1, 0, none⟩ = some (.string ⟨#[98, 97, 115, 101]⟩) ∧ w'.cell? ⟨T1, 1, none⟩ = some (.int .i64 3600000) ∧ w'.cell? ⟨T1, 2, none⟩ = some (.slice a 1 c) ∧ T1 < w'.heap.size ∧ Below W2.heap.size W2 w')) (by kernel_rfl) ?_ (fun hHeld => ?_)
      · (try dsimp only); first | exact KK.out _ hbs2 | exact KK.out _ hbs | exact KK.out _ (Below.refl _ _).drew
      refine lex_take (i := 0) (v := ?_) rfl (by kernel_rfl) (by kernel_rfl) (by kernel_rfl) (fun _ _ _ h => h) (by rfl) ?_ (by assumption) ?_
      rotate_left
      · (intro w hSw; (try dsimp only at hSw); go_simp; try with_reducible rfl)
      try simp only [Act.put, List.setIfInBounds_toArray, List.set_cons_zero, List.set_cons_succ]
      refine lex_step (i := 1) rfl (by kernel_rfl) (by rfl) (fun Kx hKx => ?_)
      go_simp
      go_at_call 7; (with_reducible refine (law_base _).mono ?_); rintro e w' ⟨p2, rfl, hbz, hb⟩
      have hbs : Below W2.heap.size W2 w' := below_then ((Below.refl _ W2).drew) hb
      have CS := Lib.hid (ref_SameZone w' ⟨#[98, 97, 115, 101]⟩ 3600000 a p2 1 c 1 baseChg (V1.out.then_ hbs) hbz)
      clear hb hbz
      try go_wp2_with fail
      refine hKx.out _ _ ?_ (fun hHeld => ?_)
      · (try dsimp only); first | exact KK.out _ hbs2 | exact KK.out _ hbs | exact KK.out _ (Below.refl _ _).drew
      clear hKx Kx
      try simp only [Act.put, List.setIfInBounds_toArray, List.set_cons_zero, List.set_cons_succ]
      refine lex_step (i := 2) rfl (by kernel_rfl) (by rfl) (fun Kx hKx => ?_)
      go_simp
      go_at_call 6; (with_reducible refine CS.out.mono ?_); rintro e w'' ⟨rfl, hb2⟩
      have hbs2 : Below W2.heap.size W2 w'' := below_then hbs hb2
      clear hb2
      try go_wp2_with fail
      refine hKx.out _ _ ?_ (fun hHeld => ?_)
      · (try dsimp only); first | exact KK.out _ hbs2 | exact KK.out _ hbs | exact KK.out _ (Below.refl _ _).drew
      clear hKx Kx
      try simp only [Act.put, List.setIfInBounds_toArray, List.set_cons_zero, List.set_cons_succ]
      refine lex_take (i := 3) (v := ?_) rfl (by kernel_rfl) (by kernel_rfl) (by kernel_rfl) (fun _ _ _ h => h) (by rfl) ?_ (by assumption) ?_
      rotate_left
      · (intro w hSw; (try dsimp only at hSw); go_simp; try with_reducible rfl)
      try simp only [Act.put, List.setIfInBounds_toArray, List.set_cons_zero, List.set_cons_succ]
      refine lex_take (i := 4) (v := ?_) rfl (by kernel_rfl) (by kernel_rfl) (by kernel_rfl) (fun _ _ _ h => h) (by rfl) ?_ (by assumption) ?_
      rotate_left
      · (intro w hSw; (try dsimp only at hSw); go_simp; try with_reducible rfl)
      try simp only [Act.put, List.setIfInBounds_toArray, List.set_cons_zero, List.set_cons_succ]
      refine lex_take (i := 5) (v := ?_) rfl (by kernel_rfl) (by kernel_rfl) (by kernel_rfl) (fun _ _ _ h => h) (by rfl) ?_ (by assumption) ?_
      rotate_left
      · (intro w hSw; (try dsimp only at hSw); go_simp; try with_reducible rfl)
      try simp only [Act.put, List.setIfInBounds_toArray, List.set_cons_zero, List.set_cons_succ]
      refine lex_take (i := 6) (v := ?_) rfl (by kernel_rfl) (by kernel_rfl) (by kernel_rfl) (fun _ _ _ h => h) (by rfl) ?_ (by assumption) ?_
      rotate_left
      · (intro w hSw; (try dsimp only at hSw); go_simp; try with_reducible rfl)
      try simp only [Act.put, List.setIfInBounds_toArray, List.set_cons_zero, List.set_cons_succ]
      refine lex_take (i := 7) (v := ?_) rfl (by kernel_rfl) (by kernel_rfl) (by kernel_rfl) (fun _ _ _ h => h) (by rfl) ?_ (by assumption) ?_
      rotate_left
      · (intro w hSw; (try dsimp only at hSw); go_simp; try with_reducible rfl)
      try simp only [Act.put, List.setIfInBounds_toArray, List.set_cons_zero, List.set_cons_succ]
      refine lex_take (i := 8) (v := ?_) rfl (by kernel_rfl) (by kernel_rfl) (by kernel_rfl) (fun _ _ _ h => h) (by rfl) ?_ (by assumption) ?_
      rotate_left
      · (intro w hSw; (try dsimp only at hSw); go_simp; try with_reducible rfl)
      try simp only [Act.put, List.setIfInBounds_toArray, List.set_cons_zero, List.set_cons_succ]
      refine lex_take (i := 9) (v := ?_) rfl (by kernel_rfl) (by kernel_rfl) (by kernel_rfl) (fun _ _ _ h => h) (by rfl) ?_ (by assumption) ?_
      rotate_left
      · (intro w hSw; (try dsimp only at hSw); go_simp; try with_reducible rfl)
      try simp only [Act.put, List.setIfInBounds_toArray, List.set_cons_zero, List.set_cons_succ]
      refine lex_take (i := 10) (v := ?_) rfl (by kernel_rfl) (by kernel_rfl) (by kernel_rfl) (fun _ _ _ h => h) (by rfl) ?_ (by assumption) ?_
      rotate_left
      · (intro w hSw; (try dsimp only at hSw); go_simp; try with_reducible rfl)
      try simp only [Act.put, List.setIfInBounds_toArray, List.set_cons_zero, List.set_cons_succ]
      refine lex_take (i := 11) (v := ?_) rfl (by kernel_rfl) (by kernel_rfl) (by kernel_rfl) (fun _ _ _ h => h) (by rfl) ?_ (by assumption) ?_
      rotate_left
      · (intro w hSw; (try dsimp only at hSw); go_simp; try with_reducible rfl)
      try simp only [Act.put, List.setIfInBounds_toArray, List.set_cons_zero, List.set_cons_succ]
      refine wpAnyH_done (by kernel_rfl) ?_ _
      go_wp2_with fail
      go_meet
      case rel => exact ⟨rfl, hbs2⟩
    case rest =>
      obtain ⟨rfl, hb⟩ := hcut
      have B3 := Lib.hid (below_then B1.out hb)
      clear hb X1 V1 B1
      obtain ⟨R, hR⟩ : ∃ R, R = readO S := ⟨_, rfl⟩
      have C4 := Lib.hid (zt_Parse wc S m (max_below HM.out B3.out) (by omega) (HP.out.below B3.out) (HE.out.below B3.out))
      have C5 := Lib.hid (fun (W : World) (hW : Below w.heap.size w W) => ref_ZoneRead W S m (max_below HM.out hW) (by omega))
      rw [← hR] at C4 C5
      obtain ⟨⟨s, f, xs⟩, n, er⟩ := R
      clear hR
      go_wp2_with fail
      refine C4.out.mono ?_
      rintro e w4 ⟨a4, c4, he, hch4, hb4⟩
      obtain rfl : e = .returned (.tuple #[.agg #[.string s, .int .i64 f, .slice a4 xs.length c4], .int .i64 n, .int .i64 er]) := he
      obtain ⟨N, hN⟩ : ∃ N, N = xs.length := ⟨_, rfl⟩
      obtain ⟨T6, hT6⟩ : ∃ b, b = w4.heap.size := ⟨_, rfl⟩
      replace hch4 : Changes w4 w4.heap.size a4 N xs := by rw [hN]; exact hch4
      have X6 := Lib.hid (At.newAt w4 (.cells #[.string s, .int .i64 f, .slice a4 N c4] 24) T6 hT6)
      have B5 := Lib.hid (below_new (below_then B3.out hb4) (.cells #[.string s, .int .i64 f, .slice a4 N c4] 24))
      have V5 := Lib.hid (hch4.then_ (below_new (Below.refl w4.heap.size w4) (.cells #[.string s, .int .i64 f, .slice a4 N c4] 24)))
      have HN := Lib.hid hN
      rw [← hN]
      clear hb4 C4 B3 hch4 hN
      go_upto_region 5 with fail
      rw [← hT6]
      clear hT6
      generalize World.alloc w4 _ = W5 at X6 B5 V5 ⊢
      have C6 := Lib.hid (C5.out W5 B5.out)
      go_wp2_with fail
      refine C6.out.mono ?_
      rintro e w6 ⟨a6, c6, he, hch6, hb6⟩
      obtain rfl : e = .returned (.tuple #[.agg #[.string s, .int .i64 f, .slice a6 xs.length c6], .int .i64 n, .int .i64 er]) := he
      replace hch6 : Changes w6 w6.heap.size a6 N xs := by rw [HN.out]; exact hch6
      obtain ⟨T9, hT9⟩ : ∃ b, b = w6.heap.size := ⟨_, rfl⟩
      have X9 := Lib.hid (At.newAt w6 (.cells #[.string s, .int .i64 f, .slice a6 N c6] 24) T9 hT9)
      have X6' := Lib.hid ((X6.out.then_ hb6).alloc (.cells #[.string s, .int .i64 f, .slice a6 N c6] 24))
      have B7 := Lib.hid (below_new (below_then B5.out hb6) (.cells #[.string s, .int .i64 f, .slice a6 N c6] 24))
      have V7 := Lib.hid (hch6.then_ (below_new (Below.refl w6.heap.size w6) (.cells #[.string s, .int .i64 f, .slice a6 N c6] 24)))
      have V6 := Lib.hid ((V5.out.then_ hb6).then_ (below_new (Below.refl w6.heap.size w6) (.cells #[.string s, .int .i64 f, .slice a6 N c6] 24)))
      clear hb6 C5 C6 B5 X6 V5 hch6
      rw [← HN.out]
      go_upto_region 6 with fail
      rw [← hT9]
      clear hT9
      generalize World.alloc w6 _ = W7 at X9 X6' B7 V7 V6 ⊢
      have x0 := X6'.out.cell 0; have x1 := X6'.out.cell 1; have x2 := X6'.out.cell 2
      simp at x0 x1 x2
      have y0 := X9.out.cell 0; have y1 := X9.out.cell 1; have y2 := X9.out.cell 2
      simp at y0 y1 y2
      have l6 := X6'.out.lt; have l9 := X9.out.lt
      go_wp2_with fail
      refine (ref_SameZone W7 s f a4 a6 N c4 c6 xs V6.out V7.out).mono ?_
      rintro e w8 ⟨rfl, hb8⟩
      go_wp2_with fail
      go_ret
      exact ⟨ret_bool (by simp), below_then B7.out hb8⟩
theorem walk {H : Type} {enc : TypeId × Value → H} {v0 : Value} {d0 : DataW H} {p0 : List MemPlace} {base : Nat} (W : World)
    (o0 : Value.okWide Tryd.prog W .any base 9 v0) (h0 : DataW.Trod enc Tryd.prog W 0 (fun _ => true) true 9 v0 d0 p0)
    (hsz : ∀ bytes, d0 = .lit (.string bytes) → bytes.length ≤ reachBytes) (hL : laidMet Tryd.prog Rows.zonetextParsesRow.laid W) (hsh : W.ShapedOpen Tryd.prog) :
    Calls Tryd.prog 3 #[v0] W fun e w' => e = .returned (.bool true) ∧ Below W.heap.size W w' := by
  obtain ⟨s, rfl, rfl, rfl, hs⟩ := Go.ChangeMaps.open_string Tryd.underlying9 o0 h0
  have hlim : s.size ≤ 140737488355328 := by
    have h1 := hsz s.data.toList rfl
    have h2 := reachBytes_lt
    have e3 : (2 : Nat) ^ 47 = 140737488355328 := by decide
    rw [str_len] at h1
    omega
  exact core W s hlim (laid_pow (by rw [pow_data]; rfl) hL.tail.tail) (laid_errs hL.tail.tail.tail.tail) (Tryd.laysLaysMn146.s1_3 W hsh)
end Go.Proofs.YthpiiocncdpimabDoor.zonetextParsesLaw
