/- Several texts in one: BothR, ToRow. -/
import Derived.Test.YtlpbaljoanfogaaGreatDoorMgJ
import Derived.Test.YtlpbaljoanfogaaGreatDoorMg4
set_option linter.unusedSimpArgs false
namespace Go.Proofs.YtlpbaljoanfogaaGreatDoor
set_option linter.unusedVariables false
set_option maxRecDepth 100000
open Go.RowKit
theorem from_bothR {s : ByteArray} {f : Int} {C : Nat} {ms : List Mon} {ls : List Int} (hs : s.size ≤ 9223372036854775807) (q : calErr s f (C : Int) ms ls = 0) (x : Int) : ∃ a b d ee : Int, (ee = 0 → -10000 ≤ a ∧ a ≤ 10000) ∧
    (∀ (w : World) (a1 a2 : Option Addr) (n1 c1 n2 c2 : Nat), n1 ≤ c1 → CalAt w a1 a2 n1 n2 ms ls → Calls Tryz.prog 29 #[.agg #[.string s, .int .i64 f, .int .i64 (C : Int), .slice a1 n1 c1, .slice a2 n2 c2], .int .i64 x] w fun e w' => e = .returned (.tuple #[.agg #[.int .i64 a, .int .i64 b, .int .i64 d], .int .i64 ee]) ∧ Below w.heap.size w w') ∧
    (∀ (w : World) (g : Nat) (a1 a2 : Option Addr) (n1 c1 n2 c2 : Nat), MarksAt w g C ls → CalAt w a1 a2 n1 n2 ms ls → Calls Tryz.prog 15 #[.agg #[.string s, .int .i64 f, .int .i64 (C : Int), .slice a1 n1 c1, .slice a2 n2 c2, .slice (some ⟨g, 0, none⟩) C C, .int .i64 (shortOf ms), .int .i64 (longOf ms), .int .i64 (daysTo (shortOf ms) (longOf ms) ls (C : Int))], .int .i64 x] w fun e w' => e = .returned (.tuple #[.agg #[.int .i64 a, .int .i64 b, .int .i64 d], .int .i64 ee]) ∧ Below w.heap.size w w') := by
  have ok := calOk_of q
  rcases inB_cases (-4000000) 4000000 x with ⟨hx, xx1, xx2⟩ | ⟨hx, hx'⟩
  case inr =>
    exact ⟨0, 0, 0, 3, (fun h => by omega), fun w a1 a2 n1 c1 n2 c2 k1 h => arith_FromDay_ok w s f C a1 a2 n1 c1 n2 c2 ms ls x 0 0 0 3 hs k1 h q (fun W hW => arith_fromDay_out W s f C a1 a2 n1 c1 n2 c2 x hx),
      fun w g a1 a2 n1 c1 n2 c2 hm h => years_FromDay_out w s f C a1 a2 n1 c1 n2 c2 ms ls g x hx⟩
  obtain ⟨y, hin⟩ := year_exists ok x
  rcases inB_cases (-10000) 10000 y with ⟨hy, y1, y2⟩ | ⟨hy, hy'⟩
  · obtain ⟨⟨k, r'⟩, hk⟩ : ∃ kr, findM (flag ls (placeOf C y)) ms (x - nyOf (shortOf ms) (longOf ms) f C ls y) 0 = kr := ⟨_, rfl⟩
    exact ⟨y, (k : Int) + 1, r' + 1, 0, (fun _ => ⟨y1, y2⟩), fun w a1 a2 n1 c1 n2 c2 k1 h => arith_FromDay_ok w s f C a1 a2 n1 c1 n2 c2 ms ls x y ((k : Int) + 1) (r' + 1) 0 hs k1 h q (fun W hW => arith_fromDay_yes W s f C a1 a2 n1 c1 n2 c2 ms ls x (y + 10002).toNat y (place_of_year ok hin y1 y2) (by omega) y1 y2 ok xx1 xx2 (h.then_ hW) k r' hk hin),
      fun w g a1 a2 n1 c1 n2 c2 hm h => years_FromDay_yes w s f C a1 a2 n1 c1 n2 c2 ms ls g x y ok xx1 xx2 hm h hin y1 y2 k r' hk⟩
  · obtain ⟨r, hr⟩ := place_exists ms ls f C x
    have hyr : inB (-10000) 10000 (-10001 + (r : Int) - 1) = false := by
      rcases inB_cases (-10000) 10000 (-10001 + (r : Int) - 1) with ⟨_, u1, u2⟩ | ⟨u, _⟩
      · have := (year_of_place hr u1 u2).unique ok hin
        omega
      · exact u
    exact ⟨0, 0, 0, 3, (fun h => by omega), fun w a1 a2 n1 c1 n2 c2 k1 h => arith_FromDay_ok w s f C a1 a2 n1 c1 n2 c2 ms ls x 0 0 0 3 hs k1 h q (fun W hW => arith_fromDay_no W s f C a1 a2 n1 c1 n2 c2 ms ls x r hr hyr ok xx1 xx2 (h.then_ hW)),
      fun w g a1 a2 n1 c1 n2 c2 hm h => years_FromDay_no w s f C a1 a2 n1 c1 n2 c2 ms ls g x y ok xx1 xx2 hm h hin hy⟩
theorem to_bothR {s : ByteArray} {f : Int} {C : Nat} {ms : List Mon} {ls : List Int} (hs : s.size ≤ 9223372036854775807) (q : calErr s f (C : Int) ms ls = 0) (y m d : Int) : ∃ n ee : Int, (ee = 0 → -4000000 ≤ n ∧ n ≤ 4000000) ∧
    (∀ (w : World) (a1 a2 : Option Addr) (n1 c1 n2 c2 : Nat), n1 ≤ c1 → CalAt w a1 a2 n1 n2 ms ls → Calls Tryz.prog 47 #[.agg #[.string s, .int .i64 f, .int .i64 (C : Int), .slice a1 n1 c1, .slice a2 n2 c2], .agg #[.int .i64 y, .int .i64 m, .int .i64 d]] w fun e w' => e = .returned (.tuple #[.int .i64 n, .int .i64 ee]) ∧ Below w.heap.size w w') ∧
    (∀ (w : World) (g : Nat) (a1 a2 : Option Addr) (n1 c1 n2 c2 : Nat), MarksAt w g C ls → CalAt w a1 a2 n1 n2 ms ls → Calls Tryz.prog 21 #[.agg #[.string s, .int .i64 f, .int .i64 (C : Int), .slice a1 n1 c1, .slice a2 n2 c2, .slice (some ⟨g, 0, none⟩) C C, .int .i64 (shortOf ms), .int .i64 (longOf ms), .int .i64 (daysTo (shortOf ms) (longOf ms) ls (C : Int))], .agg #[.int .i64 y, .int .i64 m, .int .i64 d]] w fun e w' => e = .returned (.tuple #[.int .i64 n, .int .i64 ee]) ∧ Below w.heap.size w w') := by
  have ok := calOk_of q
  rcases inB_cases (-10000) 10000 y with ⟨hy, y1, y2⟩ | ⟨hy, hy'⟩
  case inr =>
    refine ⟨0, 3, (fun h => by omega), fun w a1 a2 n1 c1 n2 c2 k1 h => ?_, fun w g a1 a2 n1 c1 n2 c2 hm h => years_ToDay_range w s f C a1 a2 n1 c1 n2 c2 ms ls g y m d hy⟩
    have h1 := arith_ToDay_err w s f C a1 a2 n1 c1 n2 c2 ms ls y m d hs k1 h (by rw [q, ayErr_range hy]; omega)
    rw [q, ayErr_range hy] at h1
    exact h1
  rcases inB_cases 1 (ms.length : Int) m with ⟨hm, m1, m2⟩ | ⟨hm, hm'⟩
  case inr =>
    exact ⟨0, 1, (fun h => by omega), fun w a1 a2 n1 c1 n2 c2 k1 h => arith_ToDay_month w s f C a1 a2 n1 c1 n2 c2 ms ls y m d hs k1 h q y1 y2 (by rw [← h.1.len]; exact hm),
      fun w g a1 a2 n1 c1 n2 c2 _ h => years_ToDay_month w s f C a1 a2 n1 c1 n2 c2 ms ls g y m d hy (by rw [← h.1.len]; exact hm)⟩
  obtain ⟨k, rfl⟩ : ∃ k : Nat, m = (k : Int) + 1 := ⟨(m - 1).toNat, by omega⟩
  obtain ⟨x, hx⟩ : ∃ x, ms[k]? = some x := ⟨_, List.getElem?_eq_getElem (show k < ms.length by omega)⟩
  rcases Bool.eq_false_or_eq_true (inB 1 (mlenOf x (flag ls (placeOf C y))) d) with hd | hd
  · obtain ⟨u, v, huv, hbd⟩ : ∃ u v, dayOr (dnum ms ls f C y k d) = .tuple #[.int .i64 u, .int .i64 v] ∧ (v = 0 → -4000000 ≤ u ∧ u ≤ 4000000) := by
      unfold dayOr
      rcases inB_cases (-4000000) 4000000 (dnum ms ls f C y k d) with ⟨hq, q1, q2⟩ | ⟨hq, _⟩
      · rw [hq]; exact ⟨_, _, rfl, fun _ => ⟨q1, q2⟩⟩
      · rw [hq]; exact ⟨_, _, rfl, fun h => by omega⟩
    refine ⟨u, v, hbd, fun w a1 a2 n1 c1 n2 c2 k1 h => ?_, fun w g a1 a2 n1 c1 n2 c2 hm h => ?_⟩
    · have h1 := arith_ToDay_ok w s f C a1 a2 n1 c1 n2 c2 ms ls y k d x hs k1 h q y1 y2 hx hd
      rw [huv] at h1
      exact h1
    · have h1 := years_ToDay_ok w s f C a1 a2 n1 c1 n2 c2 ms ls g y k d x ok y1 y2 hm h hx hd
      rw [huv] at h1
      exact h1
  · exact ⟨0, 1, (fun h => by omega), fun w a1 a2 n1 c1 n2 c2 k1 h => arith_ToDay_day w s f C a1 a2 n1 c1 n2 c2 ms ls y k d x hs k1 h q y1 y2 hx hd,
      fun w g a1 a2 n1 c1 n2 c2 hm h => years_ToDay_day w s f C a1 a2 n1 c1 n2 c2 ms ls g y k d x ok y1 y2 hm h hx hd⟩
theorem from_atR {row : List UInt8} (hrow : row ∈ rowsL) (x : Int) : ∃ a b d ee, (ee = 0 → -10000 ≤ a ∧ a ≤ 10000) ∧ FromC row x a b d ee ∧ FromY row x a b d ee := from_bothR (tkS_le hrow) (row_cal hrow) x
theorem to_atR {row : List UInt8} (hrow : row ∈ rowsL) (y m d : Int) : ∃ n ee, (ee = 0 → -4000000 ≤ n ∧ n ≤ 4000000) ∧ ToC row y m d n ee ∧ ToY row y m d n ee := to_bothR (tkS_le hrow) (row_cal hrow) y m d
end Go.Proofs.YtlpbaljoanfogaaGreatDoor

set_option linter.unusedSimpArgs false
namespace Go.Proofs.YtlpbaljoanfogaaGreatDoor
set_option linter.unusedVariables false
set_option maxRecDepth 100000
open Go.RowKit Go.Shelf
def toB (nl : List UInt8) (y : Int) (k : Nat) (d n : Int) : Bool := match rowOf nl with
  | none => false
  | some r => match (msL r)[k]? with
    | none => false
    | some x => inB 1 (mlenOf x (flag (lsL r) (placeOf (calN r : Int) y))) d && decide (dnum (msL r) (lsL r) (ruleL r).ep (calN r : Int) y k d = n)
theorem to_row {nl : List UInt8} {y : Int} {k : Nat} {d n : Int} (h : toB nl y k d n = true) (y1 : -10000 ≤ y) (y2 : y ≤ 10000) (n1 : -4000000 ≤ n) (n2 : n ≤ 4000000) : ∃ r, rowOf nl = some r ∧ ToC r y ((k : Int) + 1) d n 0 ∧ ToY r y ((k : Int) + 1) d n 0 := by
  unfold toB at h
  cases hr : rowOf nl with
  | none => rw [hr] at h; exact absurd h (by simp)
  | some r =>
    rw [hr] at h
    simp only at h
    cases hx : (msL r)[k]? with
    | none => rw [hx] at h; exact absurd h (by simp)
    | some x =>
      rw [hx] at h
      rw [Bool.and_eq_true] at h
      obtain ⟨hd, hn⟩ := h
      have hn := of_decide_eq_true hn
      have hrow : r ∈ rowsL := List.mem_of_find?_eq_some hr
      have q := row_cal hrow
      have hdo : dayOr (dnum (msL r) (lsL r) (ruleL r).ep (calN r : Int) y k d) = .tuple #[.int .i64 n, .int .i64 0] := by
        rw [hn, dayOr, inB_yes n1 n2]; rfl
      refine ⟨r, rfl, fun w a1 a2 n1 c1 n2 c2 k1 hc => ?_, fun w g a1 a2 n1 c1 n2 c2 hm hc => ?_⟩
      · have h1 := arith_ToDay_ok w (tkS (ruleL r).nm) (ruleL r).ep (calN r : Int) a1 a2 n1 c1 n2 c2 (msL r) (lsL r) y k d x (tkS_le hrow) k1 hc q y1 y2 hx hd
        rw [hdo] at h1
        exact h1
      · have h1 := years_ToDay_ok w (tkS (ruleL r).nm) (ruleL r).ep (calN r) a1 a2 n1 c1 n2 c2 (msL r) (lsL r) g y k d x (calOk_of q) y1 y2 hm hc hx hd
        rw [hdo] at h1
        exact h1
theorem from_rowR {nl : List UInt8} {x y : Int} {k : Nat} {r' : Int} (h : fromB nl x y k r' = true) (y1 : -10000 ≤ y) (y2 : y ≤ 10000) (x1 : -4000000 ≤ x) (x2 : x ≤ 4000000) : ∃ r, rowOf nl = some r ∧ FromC r x y ((k : Int) + 1) (r' + 1) 0 ∧ FromY r x y ((k : Int) + 1) (r' + 1) 0 := by
  unfold fromB at h
  cases hr : rowOf nl with
  | none => rw [hr] at h; exact absurd h (by simp)
  | some r =>
    rw [hr] at h
    obtain ⟨h1, h2, h3⟩ := of_decide_eq_true h
    have hrow : r ∈ rowsL := List.mem_of_find?_eq_some hr
    have q := row_cal hrow
    have ok := calOk_of q
    have hin : InYear (msL r) (lsL r) (ruleL r).ep (calN r : Int) y x := ⟨h1, h2⟩
    refine ⟨r, rfl, fun w a1 a2 n1 c1 n2 c2 k1 hc => ?_, fun w g a1 a2 n1 c1 n2 c2 hm hc => ?_⟩
    · exact arith_FromDay_ok w (tkS (ruleL r).nm) (ruleL r).ep (calN r) a1 a2 n1 c1 n2 c2 (msL r) (lsL r) x y ((k : Int) + 1) (r' + 1) 0 (tkS_le hrow) k1 hc q (fun W hW => arith_fromDay_yes W (tkS (ruleL r).nm) (ruleL r).ep (calN r) a1 a2 n1 c1 n2 c2 (msL r) (lsL r) x (y + 10002).toNat y (place_of_year ok hin y1 y2) (by omega) y1 y2 ok x1 x2 (hc.then_ hW) k r' h3 hin)
    · exact years_FromDay_yes w (tkS (ruleL r).nm) (ruleL r).ep (calN r) a1 a2 n1 c1 n2 c2 (msL r) (lsL r) g x y ok x1 x2 hm hc hin y1 y2 k r' h3
end Go.Proofs.YtlpbaljoanfogaaGreatDoor
