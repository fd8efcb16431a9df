/- Several texts in one: Both, Cat10. -/
import Derived.Test.YtlpbaljoanfogaaGreatDoorMgJ
import Derived.Test.YtlpbaljoanfogaaGreatDoorMgX
set_option linter.unusedSimpArgs false
namespace Go.Proofs.YtlpbaljoanfogaaGreatDoor
set_option linter.unusedVariables false
set_option maxRecDepth 100000
open Go.RowKit
theorem from_both {s : ByteArray} {f : Int} {C : Nat} {ms : List Mon} {ls : List Int} (hs : s.size ≤ 9223372036854775807) (q : calErr s f (C : Int) ms ls = 0) (x : Int) : ∃ a b d ee : Int,
    (∀ (w : World) (a1 a2 : Option Addr) (n1 c1 n2 c2 : Nat), n1 ≤ c1 → CalAt w a1 a2 n1 n2 ms ls → Calls Tryz.prog 29 #[.agg #[.string s, .int .i64 f, .int .i64 (C : Int), .slice a1 n1 c1, .slice a2 n2 c2], .int .i64 x] w fun e w' => e = .returned (.tuple #[.agg #[.int .i64 a, .int .i64 b, .int .i64 d], .int .i64 ee]) ∧ Below w.heap.size w w') ∧
    (∀ (w : World) (g : Nat) (a1 a2 : Option Addr) (n1 c1 n2 c2 : Nat), MarksAt w g C ls → CalAt w a1 a2 n1 n2 ms ls → Calls Tryz.prog 15 #[.agg #[.string s, .int .i64 f, .int .i64 (C : Int), .slice a1 n1 c1, .slice a2 n2 c2, .slice (some ⟨g, 0, none⟩) C C, .int .i64 (shortOf ms), .int .i64 (longOf ms), .int .i64 (daysTo (shortOf ms) (longOf ms) ls (C : Int))], .int .i64 x] w fun e w' => e = .returned (.tuple #[.agg #[.int .i64 a, .int .i64 b, .int .i64 d], .int .i64 ee]) ∧ Below w.heap.size w w') := by
  have ok := calOk_of q
  rcases inB_cases (-4000000) 4000000 x with ⟨hx, xx1, xx2⟩ | ⟨hx, hx'⟩
  case inr =>
    exact ⟨0, 0, 0, 3, fun w a1 a2 n1 c1 n2 c2 k1 h => arith_FromDay_ok w s f C a1 a2 n1 c1 n2 c2 ms ls x 0 0 0 3 hs k1 h q (fun W hW => arith_fromDay_out W s f C a1 a2 n1 c1 n2 c2 x hx),
      fun w g a1 a2 n1 c1 n2 c2 hm h => years_FromDay_out w s f C a1 a2 n1 c1 n2 c2 ms ls g x hx⟩
  obtain ⟨y, hin⟩ := year_exists ok x
  rcases inB_cases (-10000) 10000 y with ⟨hy, y1, y2⟩ | ⟨hy, hy'⟩
  · obtain ⟨⟨k, r'⟩, hk⟩ : ∃ kr, findM (flag ls (placeOf C y)) ms (x - nyOf (shortOf ms) (longOf ms) f C ls y) 0 = kr := ⟨_, rfl⟩
    exact ⟨y, (k : Int) + 1, r' + 1, 0, fun w a1 a2 n1 c1 n2 c2 k1 h => arith_FromDay_ok w s f C a1 a2 n1 c1 n2 c2 ms ls x y ((k : Int) + 1) (r' + 1) 0 hs k1 h q (fun W hW => arith_fromDay_yes W s f C a1 a2 n1 c1 n2 c2 ms ls x (y + 10002).toNat y (place_of_year ok hin y1 y2) (by omega) y1 y2 ok xx1 xx2 (h.then_ hW) k r' hk hin),
      fun w g a1 a2 n1 c1 n2 c2 hm h => years_FromDay_yes w s f C a1 a2 n1 c1 n2 c2 ms ls g x y ok xx1 xx2 hm h hin y1 y2 k r' hk⟩
  · obtain ⟨r, hr⟩ := place_exists ms ls f C x
    have hyr : inB (-10000) 10000 (-10001 + (r : Int) - 1) = false := by
      rcases inB_cases (-10000) 10000 (-10001 + (r : Int) - 1) with ⟨_, u1, u2⟩ | ⟨u, _⟩
      · have := (year_of_place hr u1 u2).unique ok hin
        omega
      · exact u
    exact ⟨0, 0, 0, 3, fun w a1 a2 n1 c1 n2 c2 k1 h => arith_FromDay_ok w s f C a1 a2 n1 c1 n2 c2 ms ls x 0 0 0 3 hs k1 h q (fun W hW => arith_fromDay_no W s f C a1 a2 n1 c1 n2 c2 ms ls x r hr hyr ok xx1 xx2 (h.then_ hW)),
      fun w g a1 a2 n1 c1 n2 c2 hm h => years_FromDay_no w s f C a1 a2 n1 c1 n2 c2 ms ls g x y ok xx1 xx2 hm h hin hy⟩
end Go.Proofs.YtlpbaljoanfogaaGreatDoor

set_option linter.unusedSimpArgs false
namespace Go.Proofs.YtlpbaljoanfogaaGreatDoor
set_option linter.unusedVariables false
set_option maxRecDepth 100000
open Go.RowKit Go.Shelf
abbrev dateO (a b d : Int) : Obj := .cells #[.int .i64 a, .int .i64 b, .int .i64 d] 26
abbrev calA (row : List UInt8) (a1 a2 : Option Addr) (n1 c1 n2 c2 : Nat) : Value := .agg #[.string (tkS (ruleL row).nm), .int .i64 (ruleL row).ep, .int .i64 (calN row : Int), .slice a1 n1 c1, .slice a2 n2 c2]
abbrev calAO (row : List UInt8) (a1 a2 : Option Addr) (n1 c1 n2 c2 : Nat) : Obj := .cells #[.string (tkS (ruleL row).nm), .int .i64 (ruleL row).ep, .int .i64 (calN row : Int), .slice a1 n1 c1, .slice a2 n2 c2] 36
def FromC (row : List UInt8) (x a b d ee : Int) : Prop := ∀ (w : World) (a1 a2 : Option Addr) (n1 c1 n2 c2 : Nat), n1 ≤ c1 → CalAt w a1 a2 n1 n2 (msL row) (lsL row) → Calls Tryz.prog 29 #[calA row a1 a2 n1 c1 n2 c2, .int .i64 x] w fun e w' => e = .returned (.tuple #[.agg #[.int .i64 a, .int .i64 b, .int .i64 d], .int .i64 ee]) ∧ Below w.heap.size w w'
def ToC (row : List UInt8) (y m d n ee : Int) : Prop := ∀ (w : World) (a1 a2 : Option Addr) (n1 c1 n2 c2 : Nat), n1 ≤ c1 → CalAt w a1 a2 n1 n2 (msL row) (lsL row) → Calls Tryz.prog 47 #[calA row a1 a2 n1 c1 n2 c2, .agg #[.int .i64 y, .int .i64 m, .int .i64 d]] w fun e w' => e = .returned (.tuple #[.int .i64 n, .int .i64 ee]) ∧ Below w.heap.size w w'
set_option maxHeartbeats 2000000 in
theorem cat_Date_some (nl row : List UInt8) (hro : rowOf nl = some row) (x a b d ee : Int) (hf : FromC row x a b d ee) (w : World) (m : Int) (hm : w.cell? ⟨0, 0, none⟩ = some (.int .i64 m)) (hlv : Lvl w) (hsg : Sgn w) :
    Calls Tryz.prog 33 #[.string ⟨nl.toArray⟩, .int .i64 x] w fun e w' => e = .returned (.tuple #[.agg #[.int .i64 a, .int .i64 b, .int .i64 d], .int .i64 ee]) ∧ Below w.heap.size w w' := by
  have hgm := World.block_lt_of_cell? _ _ hm
  have b0 : Below w.heap.size w (w.alloc (dateO 0 0 0)) := below_new (Below.refl _ _) (dateO 0 0 0)
  have CC := cat_Calendar nl (w.alloc (dateO 0 0 0)) m ((b0.cell (p := ⟨0, 0, none⟩) hgm).trans hm) (hlv.below b0) (hsg.below b0)
  unfold CalPost at CC
  rw [hro] at CC
  have CX := Lib.hid CC
  have HF := Lib.hid hf
  have B0 := Lib.hid b0
  have A0 := Lib.hid (At.new w (dateO 0 0 0))
  clear hm hgm hlv hsg b0 CC hro hf
  go_enter Tryz.func33, Tryz.ntmps33
  go_wp2_with fail
  refine CX.out.mono ?_
  rintro e w1 ⟨v, rfl, p1, q1, r1, p2, q2, r2, rfl, k1, k2, hcal, hb⟩
  have o1 := At.new w1 (calAO row p1 p2 q1 r1 q2 r2)
  have A1 := Lib.hid ((A0.out.then_ hb).alloc (calAO row p1 p2 q1 r1 q2 r2))
  have B1 := Lib.hid (below_new (below_then B0.out hb) (calAO row p1 p2 q1 r1 q2 r2))
  have HC := Lib.hid (hcal.alloc (calAO row p1 p2 q1 r1 q2 r2))
  have K1 := Lib.hid k1
  clear hb CX A0 B0 hcal k1 k2
  obtain ⟨T, hT⟩ : ∃ T, T = w1.heap.size := ⟨_, rfl⟩
  rw [← hT] at o1
  go_upto_region 2 with fail
  rw [← hT]
  generalize World.alloc w1 _ = W2 at o1 A1 B1 HC ⊢
  clear hT
  have x0 := o1.cell 0; have x1 := o1.cell 1; have x2 := o1.cell 2; have x3 := o1.cell 3; have x4 := o1.cell 4; simp at x0 x1 x2 x3 x4
  have hl := o1.lt
  clear o1
  go_wp2_with fail
  refine (HF.out W2 p1 p2 q1 r1 q2 r2 K1.out HC.out).mono ?_
  rintro e w3 ⟨rfl, hb⟩
  have A3 := Lib.hid (A1.out.then_ hb)
  have B3 := Lib.hid (below_then B1.out hb)
  clear hb HC A1 B1 x0 x1 x2 x3 x4
  have a3 := A3.out
  have z0 := a3.cell 0; have z1 := a3.cell 1; have z2 := a3.cell 2; simp at z0 z1 z2
  have f0 := a3.frozen 0; have f1 := a3.frozen 1; have f2 := a3.frozen 2
  clear a3
  have hl3 := A3.out.lt
  go_wp2_with fail
  have AF := A3.out.store3 (.int .i64 a) (.int .i64 b) (.int .i64 d)
  have BF := Lib.hid (below_set (p := ⟨w.heap.size, 2, none⟩) (below_set (p := ⟨w.heap.size, 1, none⟩) (below_set (p := ⟨w.heap.size, 0, none⟩) B3.out (by simp) (.int .i64 a)) (by simp) (.int .i64 b)) (by simp) (.int .i64 d))
  clear f0 f1 f2 z0 z1 z2
  generalize World.setCell (World.setCell _ _ _) _ _ = W3 at AF BF ⊢
  have y0 := AF.cell 0; have y1 := AF.cell 1; have y2 := AF.cell 2; simp at y0 y1 y2
  exact bodyPost_ret (v := .tuple #[.agg #[.int .i64 a, .int .i64 b, .int .i64 d], .int .i64 ee]) (by simp [results, Tryz.results33, go_sem, y0, y1, y2]) rfl ⟨rfl, BF.out⟩
set_option maxHeartbeats 2000000 in
theorem cat_Day_some (nl row : List UInt8) (hro : rowOf nl = some row) (y mo d n ee : Int) (hf : ToC row y mo d n ee) (w : World) (m : Int) (hm : w.cell? ⟨0, 0, none⟩ = some (.int .i64 m)) (hlv : Lvl w) (hsg : Sgn w) :
    Calls Tryz.prog 42 #[.string ⟨nl.toArray⟩, .agg #[.int .i64 y, .int .i64 mo, .int .i64 d]] w fun e w' => e = .returned (.tuple #[.int .i64 n, .int .i64 ee]) ∧ Below w.heap.size w w' := by
  have hgm := World.block_lt_of_cell? _ _ hm
  have b0 : Below w.heap.size w (w.alloc (dateO y mo d)) := below_new (Below.refl _ _) (dateO y mo d)
  have CC := cat_Calendar nl (w.alloc (dateO y mo d)) m ((b0.cell (p := ⟨0, 0, none⟩) hgm).trans hm) (hlv.below b0) (hsg.below b0)
  unfold CalPost at CC
  rw [hro] at CC
  have CX := Lib.hid CC
  have HF := Lib.hid hf
  have B0 := Lib.hid b0
  have A0 := Lib.hid (At.new w (dateO y mo d))
  clear hm hgm hlv hsg b0 CC hro hf
  go_enter Tryz.func42, Tryz.ntmps42
  go_wp2_with fail
  refine CX.out.mono ?_
  rintro e w1 ⟨v, rfl, p1, q1, r1, p2, q2, r2, rfl, k1, k2, hcal, hb⟩
  have o1 := At.new w1 (calAO row p1 p2 q1 r1 q2 r2)
  have A1 := Lib.hid ((A0.out.then_ hb).alloc (calAO row p1 p2 q1 r1 q2 r2))
  have B1 := Lib.hid (below_new (below_then B0.out hb) (calAO row p1 p2 q1 r1 q2 r2))
  have HC := Lib.hid (hcal.alloc (calAO row p1 p2 q1 r1 q2 r2))
  have K1 := Lib.hid k1
  clear hb CX A0 B0 hcal k1 k2
  obtain ⟨T, hT⟩ : ∃ T, T = w1.heap.size := ⟨_, rfl⟩
  rw [← hT] at o1
  go_upto_region 2 with fail
  rw [← hT]
  generalize World.alloc w1 _ = W2 at o1 A1 B1 HC ⊢
  clear hT
  have x0 := o1.cell 0; have x1 := o1.cell 1; have x2 := o1.cell 2; have x3 := o1.cell 3; have x4 := o1.cell 4; simp at x0 x1 x2 x3 x4
  have a1 := A1.out
  have z0 := a1.cell 0; have z1 := a1.cell 1; have z2 := a1.cell 2; simp at z0 z1 z2
  clear a1
  have hl := o1.lt; have hl2 := A1.out.lt
  clear o1
  go_wp2_with fail
  refine (HF.out W2 p1 p2 q1 r1 q2 r2 K1.out HC.out).mono ?_
  rintro e w3 ⟨rfl, hb⟩
  have B3 := Lib.hid (below_then B1.out hb)
  clear hb
  go_wp2_with fail
  go_ret2
  exact ⟨rfl, B3.out⟩
def fromB (nl : List UInt8) (x y : Int) (k : Nat) (r' : Int) : Bool := match rowOf nl with
  | none => false
  | some r => decide (nyOf (shortOf (msL r)) (longOf (msL r)) (ruleL r).ep (calN r : Int) (lsL r) y ≤ x ∧ x < nyOf (shortOf (msL r)) (longOf (msL r)) (ruleL r).ep (calN r : Int) (lsL r) (y + 1) ∧ findM (flag (lsL r) (placeOf (calN r : Int) y)) (msL r) (x - nyOf (shortOf (msL r)) (longOf (msL r)) (ruleL r).ep (calN r : Int) (lsL r) y) 0 = (k, r'))
theorem from_row {nl : List UInt8} {x y : Int} {k : Nat} {r' : Int} (h : fromB nl x y k r' = true) (y1 : -10000 ≤ y) (y2 : y ≤ 10000) (x1 : -4000000 ≤ x) (x2 : x ≤ 4000000) : ∃ r, rowOf nl = some r ∧ FromC r x y ((k : Int) + 1) (r' + 1) 0 := by
  unfold fromB at h
  cases hr : rowOf nl with
  | none => rw [hr] at h; exact absurd h (by simp)
  | some r =>
    rw [hr] at h
    obtain ⟨h1, h2, h3⟩ := of_decide_eq_true h
    have hrow : r ∈ rowsL := List.mem_of_find?_eq_some hr
    have q := row_cal hrow
    have ok := calOk_of q
    have hin : InYear (msL r) (lsL r) (ruleL r).ep (calN r : Int) y x := ⟨h1, h2⟩
    refine ⟨r, rfl, fun w a1 a2 n1 c1 n2 c2 k1 hc => ?_⟩
    exact arith_FromDay_ok w (tkS (ruleL r).nm) (ruleL r).ep (calN r) a1 a2 n1 c1 n2 c2 (msL r) (lsL r) x y ((k : Int) + 1) (r' + 1) 0 (tkS_le hrow) k1 hc q (fun W hW => arith_fromDay_yes W (tkS (ruleL r).nm) (ruleL r).ep (calN r) a1 a2 n1 c1 n2 c2 (msL r) (lsL r) x (y + 10002).toNat y (place_of_year ok hin y1 y2) (by omega) y1 y2 ok x1 x2 (hc.then_ hW) k r' h3 hin)
end Go.Proofs.YtlpbaljoanfogaaGreatDoor
