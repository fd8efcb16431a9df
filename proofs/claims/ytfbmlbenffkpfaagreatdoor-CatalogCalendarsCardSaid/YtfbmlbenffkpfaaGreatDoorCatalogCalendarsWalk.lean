import Derived.Test.YtfbmlbenffkpfaaGreatDoorRows
import Derived.Test.YtfbmlbenffkpfaaGreatDoorMgX
import Derived.Test.YtfbmlbenffkpfaaGreatDoorComp4
import Derived.Test.YtfbmlbenffkpfaaGreatDoorMgV
import Derived.Test.YtfbmlbenffkpfaaGreatDoorMgI
set_option linter.unusedSimpArgs false
namespace Go.Proofs.YtfbmlbenffkpfaaGreatDoor
set_option linter.unusedVariables false
set_option maxRecDepth 100000
open Go.RowKit Go.Shelf
abbrev julL : List UInt8 := [106, 117, 108, 105, 97, 110]
def julB : Bool := match rowOf julL with
  | none => false
  | some r => decide ((ruleL r).ep = -1 ∧ calN r = 4 ∧ lsL r = [4])
theorem jul_b : julB = true := by decide +kernel
theorem jul_row : ∃ r, rowOf julL = some r ∧ (ruleL r).ep = -1 ∧ calN r = 4 ∧ lsL r = [4] := by
  have h := jul_b
  unfold julB at h
  cases hr : rowOf julL with
  | none => rw [hr] at h; exact absurd h (by simp)
  | some r => rw [hr] at h; exact ⟨r, rfl, of_decide_eq_true h⟩
theorem cal_jul (w : World) (m : Int) (hm : w.cell? ⟨2, 0, none⟩ = some (.int .i64 m)) (hlv : Lvl w) (hsg : Sgn w) :
    Calls Tryz.prog 17 #[.string ⟨#[106, 117, 108, 105, 97, 110]⟩] w fun e w' => ∃ S a1 n1 c1 a2 c2, e = .returned (.tuple #[.agg #[.string S, .int .i64 (-1), .int .i64 4, .slice a1 n1 c1, .slice a2 1 c2], .int .i64 0]) ∧ Ints w' w'.heap.size a2 1 [4] ∧ Below w.heap.size w w' := by
  obtain ⟨r, hr, e1, e2, e3⟩ := jul_row
  refine (cat_Calendar julL w m hm hlv hsg).mono ?_
  intro e w' h
  unfold CalPost at h
  rw [hr] at h
  obtain ⟨v, rfl, a1, n1, c1, a2, n2, c2, rfl, k1, k2, ⟨hm', hi⟩, hb⟩ := h
  rw [e3] at hi
  obtain rfl : n2 = 1 := hi.1.symm
  rw [e1, e2]
  exact ⟨_, a1, n1, c1, a2, c2, rfl, hi, hb⟩
end Go.Proofs.YtfbmlbenffkpfaaGreatDoor
namespace Go.Proofs.YtfbmlbenffkpfaaGreatDoor.catalogCalendarsLaw
set_option linter.unusedVariables false
set_option maxRecDepth 100000
open Go.RowKit Go.ChangeShapes Go.WideShapes Go.Shelf
set_option maxHeartbeats 4000000 in
theorem core (w : World) (nl : List UInt8) (m : Int) (hm : w.cell? ⟨2, 0, none⟩ = some (.int .i64 m)) (hlv : Lvl w) (hsg : Sgn w) :
    Calls Tryz.prog 4 #[.string ⟨nl.toArray⟩] w fun e w' => e = .returned (.bool true) ∧ Below w.heap.size w w' := by
  have hgm := World.block_lt_of_cell? _ _ hm
  have CJ := Lib.hid (cal_jul w m hm hlv hsg)
  have CC := Lib.hid (fun (W : World) (hW : Below w.heap.size w W) => cat_Calendar nl W m ((hW.cell (p := ⟨2, 0, none⟩) hgm).trans hm) (hlv.below hW) (hsg.below hW))
  have CN := Lib.hid (fun (W : World) (hW : Below w.heap.size w W) => ref_Named nl W m ((hW.cell (p := ⟨2, 0, none⟩) hgm).trans hm))
  clear hm hlv hsg hgm
  go_enter Tryz.func4, Tryz.ntmps4
  go_wp2_with fail
  refine CJ.out.mono ?_
  rintro e w1 ⟨S, a1, n1, c1, a2, c2, rfl, hI, hb⟩
  have HI := Lib.hid hI; have HB := Lib.hid hb
  clear hI hb
  go_wp2_with fail
  have ai := At.new1 w1 (.cells #[.string S, .int .i64 (-1), .int .i64 4, .slice a1 n1 c1, .slice a2 1 c2] 33) (.cells #[.int .i64 4] 3)
  have bi := below_new (below_new (Below.refl w1.heap.size w1) (.cells #[.string S, .int .i64 (-1), .int .i64 4, .slice a1 n1 c1, .slice a2 1 c2] 33)) (.cells #[.int .i64 4] 3)
  generalize World.alloc (World.alloc w1 _) _ = W2 at ai bi ⊢
  refine (ref_SameInts _ a2 (some ⟨w1.heap.size + 1, 0, none⟩) 1 c2 1 1 [4] [4] (ints_then4 HI.out bi) (At.ints [4] ai (by unfold I64; simp) (by simp))).mono ?_
  rw [show (([4] : List Int) == [4]) = true by decide]
  rintro e w3 ⟨rfl, hd⟩
  have HB3 := Lib.hid (below_drawn (below_then HB.out bi) hd)
  clear ai bi hd HI HB
  go_wp2_with fail
  have CX := CC.out w3 HB3.out
  unfold CalPost at CX
  cases hro : rowOf nl with
  | none =>
    rw [hro] at CX
    have CX2 := Lib.hid CX
    have CNX := Lib.hid (fun (W : World) (hW : Below w.heap.size w W) => show Calls Tryz.prog 19 #[.string ⟨nl.toArray⟩] W (fun e w' => e = .returned (.tuple #[.agg zYv, .bool false]) ∧ Below W.heap.size W w') from by
      have h := CN.out W hW
      unfold NamedPost at h
      rw [hro] at h
      exact h)
    clear CX CN CC hro
    refine CX2.out.mono ?_
    rintro e w4 ⟨rfl, hb⟩
    have o4 := At.new w4 zCalO
    have B4 := Lib.hid (below_new (below_then HB3.out hb) zCalO)
    obtain ⟨T4, hT4⟩ : ∃ T, T = w4.heap.size := ⟨_, rfl⟩
    rw [← hT4] at o4
    clear hb CX2
    go_upto_region 5 with fail
    rw [← hT4]
    generalize World.alloc w4 _ = W4 at o4 B4 ⊢
    clear hT4 HB3
    have O4 := Lib.hid o4; clear o4
    go_wp2_with fail
    refine (CNX.out _ B4.out).mono ?_
    rintro e w5 ⟨rfl, hb⟩
    have o5 := (O4.out.then_ hb).alloc zYo
    have B5 := Lib.hid (below_new (below_then B4.out hb) zYo)
    clear hb O4 B4
    go_upto_region 6 with fail
    generalize World.alloc w5 _ = W5 at o5 B5 ⊢
    have d0 := o5.cell 0; have d1 := o5.cell 1; have d2 := o5.cell 2; have d3 := o5.cell 3; have d4 := o5.cell 4; simp at d0 d1 d2 d3 d4
    have hl := o5.lt
    clear o5
    go_wp2_with fail
    refine (ref_SameCalendar W5 ⟨#[]⟩ 0 0 none none none none 0 0 0 0 0 0 [] [] ⟨⟨rfl, by omega, fun h => absurd h (by omega)⟩, by simp⟩ ⟨rfl, by omega, by simp, fun h => absurd h (by omega)⟩ ⟨⟨rfl, by omega, fun h => absurd h (by omega)⟩, by simp⟩ ⟨rfl, by omega, by simp, fun h => absurd h (by omega)⟩).mono ?_
    rintro e w6 ⟨rfl, hb⟩
    have B6 := Lib.hid (below_then B5.out hb)
    clear hb
    go_wp2_with fail
    go_ret
    exact ⟨ret_bool (by simp), B6.out⟩
  | some row =>
    rw [hro] at CX
    have CX2 := Lib.hid CX
    have CNX := Lib.hid (fun (W : World) (hW : Below w.heap.size w W) => show Calls Tryz.prog 19 #[.string ⟨nl.toArray⟩] W (fun e w' => ∃ v, e = .returned (.tuple #[v, .bool true]) ∧ YearsRet row W v w') from by
      have h := CN.out W hW
      unfold NamedPost at h
      rw [hro] at h
      exact h)
    clear CX CN CC hro
    refine CX2.out.mono ?_
    rintro e w4 ⟨v, rfl, p1, q1, r1, p2, q2, r2, rfl, k1, k2, hcal, hb⟩
    obtain ⟨F, hF⟩ : ∃ F, F = (ruleL row).ep := ⟨_, rfl⟩
    obtain ⟨N, hN⟩ : ∃ N : Int, N = (calN row : Int) := ⟨_, rfl⟩
    obtain ⟨S', hS'⟩ : ∃ N, N = tkS (ruleL row).nm := ⟨_, rfl⟩
    have HF := Lib.hid hF; have HN := Lib.hid hN; have HS := Lib.hid hS'
    rw [← hF, ← hN, ← hS']
    clear hF hN hS'
    have o4 := At.new w4 (.cells #[.string S', .int .i64 F, .int .i64 N, .slice p1 q1 r1, .slice p2 q2 r2] 33)
    have B4 := Lib.hid (below_new (below_then HB3.out hb) (.cells #[.string S', .int .i64 F, .int .i64 N, .slice p1 q1 r1, .slice p2 q2 r2] 33))
    have HC := Lib.hid (hcal.alloc (.cells #[.string S', .int .i64 F, .int .i64 N, .slice p1 q1 r1, .slice p2 q2 r2] 33))
    obtain ⟨T4, hT4⟩ : ∃ T, T = w4.heap.size := ⟨_, rfl⟩
    rw [← hT4] at o4
    clear hb CX2 hcal k1 k2
    go_upto_region 5 with fail
    rw [← hT4]
    generalize World.alloc w4 _ = W4 at o4 B4 HC ⊢
    clear hT4 HB3
    have O4 := Lib.hid o4; clear o4
    go_wp2_with fail
    refine (CNX.out _ B4.out).mono ?_
    rintro e w5 ⟨v, rfl, p3, q3, r3, p4, q4, r4, g, rfl, k3, k4, hcal, hmk, hb⟩
    rw [← HF.out, ← HN.out, ← HS.out]
    have HC5 := Lib.hid (HC.out.then_ hb)
    generalize daysTo (shortOf (msL row)) (longOf (msL row)) (lsL row) _ = u3
    generalize shortOf (msL row) = u1
    generalize longOf (msL row) = u2
    generalize calN row = u4
    have o5 := (O4.out.then_ hb).alloc (.cells #[.string S', .int .i64 F, .int .i64 N, .slice p3 q3 r3, .slice p4 q4 r4, .slice (some ⟨g, 0, none⟩) u4 u4, .int .i64 u1, .int .i64 u2, .int .i64 u3] 40)
    have y5 := At.new w5 (.cells #[.string S', .int .i64 F, .int .i64 N, .slice p3 q3 r3, .slice p4 q4 r4, .slice (some ⟨g, 0, none⟩) u4 u4, .int .i64 u1, .int .i64 u2, .int .i64 u3] 40)
    have B5 := Lib.hid (below_new (below_then B4.out hb) (.cells #[.string S', .int .i64 F, .int .i64 N, .slice p3 q3 r3, .slice p4 q4 r4, .slice (some ⟨g, 0, none⟩) u4 u4, .int .i64 u1, .int .i64 u2, .int .i64 u3] 40))
    have HC6 := Lib.hid (HC5.out.alloc (.cells #[.string S', .int .i64 F, .int .i64 N, .slice p3 q3 r3, .slice p4 q4 r4, .slice (some ⟨g, 0, none⟩) u4 u4, .int .i64 u1, .int .i64 u2, .int .i64 u3] 40))
    have HC7 := Lib.hid (hcal.alloc (.cells #[.string S', .int .i64 F, .int .i64 N, .slice p3 q3 r3, .slice p4 q4 r4, .slice (some ⟨g, 0, none⟩) u4 u4, .int .i64 u1, .int .i64 u2, .int .i64 u3] 40))
    obtain ⟨T5, hT5⟩ : ∃ T, T = w5.heap.size := ⟨_, rfl⟩
    rw [← hT5] at y5
    clear hb O4 B4 hcal hmk k3 k4 HC5 HC
    go_upto_region 6 with fail
    rw [← hT5]
    generalize World.alloc w5 _ = W5 at o5 y5 B5 HC6 HC7 ⊢
    clear hT5
    obtain rfl : q3 = q1 := by rw [← HC7.out.1.len, ← HC6.out.1.len]
    obtain rfl : q4 = q2 := by rw [← HC7.out.2.1, ← HC6.out.2.1]
    have d0 := o5.cell 0; have d1 := o5.cell 1; have d2 := o5.cell 2; have d3 := o5.cell 3; have d4 := o5.cell 4; simp at d0 d1 d2 d3 d4
    have e0 := y5.cell 0; have e1 := y5.cell 1; have e2 := y5.cell 2; have e3 := y5.cell 3; have e4 := y5.cell 4; simp at e0 e1 e2 e3 e4
    have hl := o5.lt; have hl2 := y5.lt
    clear o5 y5
    go_wp2_with fail
    refine (ref_SameCalendar W5 S' F N p1 p2 p3 p4 q3 r1 q4 r2 r3 r4 (msL row) (lsL row) HC6.out.1 HC6.out.2 HC7.out.1 HC7.out.2).mono ?_
    rintro e w6 ⟨rfl, hb⟩
    have B6 := Lib.hid (below_then B5.out hb)
    clear hb
    go_wp2_with fail
    go_ret
    exact ⟨ret_bool (by simp), B6.out⟩
theorem walk {H : Type} {enc : TypeId × Value → H} {v0 : Value} {d0 : DataW H} {p0 : List MemPlace} {base : Nat} (W : World)
    (o0 : Value.okWide Tryz.prog W .any base 9 v0) (h0 : DataW.Trod enc Tryz.prog W 0 (fun _ => true) true 9 v0 d0 p0)
    (hsz : ∀ bytes, d0 = .lit (.string bytes) → bytes.length ≤ reachBytes) (hL : laidMet Tryz.prog Rows.catalogCalendarsRow.laid W) (hsh : W.ShapedOpen Tryz.prog) :
    Calls Tryz.prog 4 #[v0] W fun e w' => e = .returned (.bool true) ∧ Below W.heap.size W w' := by
  obtain ⟨s, rfl, rfl, rfl, hs⟩ := Go.ChangeMaps.open_string Tryz.underlying9 o0 h0
  obtain ⟨m, hm⟩ : ∃ m : Int, W.cell? ⟨2, 0, none⟩ = some (.int .i64 m) := Tryz.laysLaysMn146.s1_3 W hsh
  have h := core W s.data.toList m hm (cat_lvl rfl hL.tail.tail.tail.tail.tail.tail) (cat_sgn rfl hL.tail.tail.tail.tail.tail.tail.tail)
  rw [show (⟨s.data.toList.toArray⟩ : ByteArray) = s from by simp] at h
  exact h
end Go.Proofs.YtfbmlbenffkpfaaGreatDoor.catalogCalendarsLaw
