/- Contracts of arith.NewYear, arith.Leap, arith.Month. -/
import Derived.Test.YtghecclgaaklaaaArith2
namespace Go.Proofs.Ytghecclgaaklaaa
set_option linter.unusedVariables false
set_option maxRecDepth 100000
open Go.RowKit

theorem ayErr_ok {y : Int} (h1 : -10000 ≤ y) (h2 : y ≤ 10000) : ayErr 0 y = 0 := by rw [ayErr, if_neg (by omega), if_pos (inB_yes h1 h2)]
theorem ayErr_range {y : Int} (h : inB (-10000) 10000 y = false) : ayErr 0 y = 3 := by rw [ayErr, if_neg (by omega), if_neg (by rw [h]; simp)]
theorem ayErr_err {e y : Int} (h : e ≠ 0) : ayErr e y = e := if_pos h
theorem ok_n1 {w : World} {a1 a2 : Option Addr} {n1 n2 : Nat} {ms : List Mon} {ls : List Int} {s : ByteArray} {f c : Int} (h : CalAt w a1 a2 n1 n2 ms ls) (ok : CalOk s f c ms ls) : 1 ≤ n1 ∧ n1 ≤ 20 ∧ n2 ≤ 3000 ∧ (n2 : Int) ≤ c := by
  have h1 := h.1.len; have h2 := h.2.1; have h3 := ok.ml1; have h4 := ok.ml2; have h5 := ok.count.2; have h6 := ok.cy2
  omega
theorem arith_NewYear_err (w : World) (s : ByteArray) (f c : Int) (a1 a2 : Option Addr) (n1 c1 n2 c2 : Nat) (ms : List Mon) (ls : List Int) (y : Int) (hs : s.size ≤ 9223372036854775807) (k1 : n1 ≤ c1) (h : CalAt w a1 a2 n1 n2 ms ls) (q : ayErr (calErr s f c ms ls) y ≠ 0) :
    Calls Try.prog 57 #[.agg #[.string s, .int .i64 f, .int .i64 c, .slice a1 n1 c1, .slice a2 n2 c2], .int .i64 y] w fun e w' => e = .returned (.tuple #[.int .i64 0, .int .i64 (ayErr (calErr s f c ms ls) y)]) ∧ Below w.heap.size w w' := by
  have H := Lib.hid h; clear h
  obtain ⟨E, hE⟩ : ∃ E, E = ayErr (calErr s f c ms ls) y := ⟨_, rfl⟩
  rw [← hE] at q ⊢
  have HE := Lib.hid hE; clear hE
  have q' : (E != 0) = true := by simpa using q
  clear q
  go_enter Try.func57, Try.ntmps57
  go_wp2_with fail
  refine (arith_check _ _ _ _ _ _ _ _ _ _ ms ls y hs k1 (H.out.alloc _)).mono ?_; rw [← HE.out]; rintro e w1 ⟨rfl, hb⟩
  go_wp2_with fail
  go_ret2
  exact ⟨rfl, by (repeat' (first | exact Below.refl _ _ | assumption | refine Below.drew ?_ | refine below_drewN ?_ _ | refine below_new ?_ _ | refine below_set ?_ ?_ _ | refine below_then ?_ (by assumption) | refine below_drawn ?_ (by assumption) | exact Nat.le_refl _ | omega | (simp; done) | (simp; omega)))⟩
def dayOr (d : Int) : Value := if inB (-4000000) 4000000 d then .tuple #[.int .i64 d, .int .i64 0] else .tuple #[.int .i64 0, .int .i64 3]
theorem arith_NewYear_ok (w : World) (s : ByteArray) (f c : Int) (a1 a2 : Option Addr) (n1 c1 n2 c2 : Nat) (ms : List Mon) (ls : List Int) (y : Int) (hs : s.size ≤ 9223372036854775807) (k1 : n1 ≤ c1) (h : CalAt w a1 a2 n1 n2 ms ls) (q : calErr s f c ms ls = 0) (y1 : -10000 ≤ y) (y2 : y ≤ 10000) :
    Calls Try.prog 57 #[.agg #[.string s, .int .i64 f, .int .i64 c, .slice a1 n1 c1, .slice a2 n2 c2], .int .i64 y] w fun e w' => e = .returned (dayOr (nyOf (shortOf ms) (longOf ms) f c ls y)) ∧ Below w.heap.size w w' := by
  have H := Lib.hid h; clear h
  have ok := calOk_of q
  have OK := Lib.hid ok; clear ok
  have HE := Lib.hid (show ayErr (calErr s f c ms ls) y = 0 by rw [q, ayErr_ok y1 y2])
  clear q
  obtain ⟨D, hD⟩ : ∃ D, D = nyOf (shortOf ms) (longOf ms) f c ls y := ⟨_, rfl⟩
  rw [← hD]
  have HD := Lib.hid hD; clear hD
  go_enter Try.func57, Try.ntmps57
  go_wp2_with fail
  refine (arith_check _ _ _ _ _ _ _ _ _ _ ms ls y hs k1 (H.out.alloc _)).mono ?_; rw [HE.out]; rintro e w1 ⟨rfl, hb⟩
  have a0 := (At.new w (.cells #[.string s, .int .i64 f, .int .i64 c, .slice a1 n1 c1, .slice a2 n2 c2] 37)).then_ hb
  have b0 : Below w.heap.size w w1 := by (repeat' (first | exact Below.refl _ _ | assumption | refine Below.drew ?_ | refine below_drewN ?_ _ | refine below_new ?_ _ | refine below_set ?_ ?_ _ | refine below_then ?_ (by assumption) | refine below_drawn ?_ (by assumption) | exact Nat.le_refl _ | omega | (simp; done) | (simp; omega)))
  clear hb
  have d0 := a0.cell 0; have d1 := a0.cell 1; have d2 := a0.cell 2; have d3 := a0.cell 3; have d4 := a0.cell 4; simp at d0 d1 d2 d3 d4
  go_wp2_with fail
  refine (arith_newYear _ _ _ _ _ _ _ _ _ _ ms ls y OK.out (by omega) (by omega) (H.out.then_ b0)).mono ?_; rw [← HD.out]; rintro e w2 ⟨rfl, hb⟩
  replace b0 := below_then b0 hb
  clear hb d0 d1 d2 d3 d4 a0
  rcases inB_cases (-4000000) 4000000 D with ⟨hd, _⟩ | ⟨hd, _⟩
  · have ho := Lib.hid (show dayOr D = .tuple #[.int .i64 D, .int .i64 0] from if_pos hd)
    go_wp2_with fail
    refine (line_Is _ _).mono ?_; rw [hd]; rintro e w3 ⟨rfl, rfl⟩
    go_wp2_with fail
    go_ret2
    exact ⟨by rw [ho.out]; rfl, b0⟩
  · have ho := Lib.hid (show dayOr D = .tuple #[.int .i64 0, .int .i64 3] from if_neg (by rw [hd]; simp))
    go_wp2_with fail
    refine (line_Is _ _).mono ?_; rw [hd]; rintro e w3 ⟨rfl, rfl⟩
    go_wp2_with fail
    go_ret2
    exact ⟨by rw [ho.out]; rfl, b0⟩
theorem arith_Leap_err (w : World) (s : ByteArray) (f c : Int) (a1 a2 : Option Addr) (n1 c1 n2 c2 : Nat) (ms : List Mon) (ls : List Int) (y : Int) (hs : s.size ≤ 9223372036854775807) (k1 : n1 ≤ c1) (h : CalAt w a1 a2 n1 n2 ms ls) (q : ayErr (calErr s f c ms ls) y ≠ 0) :
    Calls Try.prog 61 #[.agg #[.string s, .int .i64 f, .int .i64 c, .slice a1 n1 c1, .slice a2 n2 c2], .int .i64 y] w fun e w' => e = .returned (.tuple #[.bool false, .int .i64 (ayErr (calErr s f c ms ls) y)]) ∧ Below w.heap.size w w' := by
  have H := Lib.hid h; clear h
  obtain ⟨E, hE⟩ : ∃ E, E = ayErr (calErr s f c ms ls) y := ⟨_, rfl⟩
  rw [← hE] at q ⊢
  have HE := Lib.hid hE; clear hE
  have q' : (E != 0) = true := by simpa using q
  clear q
  go_enter Try.func61, Try.ntmps61
  go_wp2_with fail
  refine (arith_check _ _ _ _ _ _ _ _ _ _ ms ls y hs k1 (H.out.alloc _)).mono ?_; rw [← HE.out]; rintro e w1 ⟨rfl, hb⟩
  go_wp2_with fail
  go_ret2
  exact ⟨rfl, by (repeat' (first | exact Below.refl _ _ | assumption | refine Below.drew ?_ | refine below_drewN ?_ _ | refine below_new ?_ _ | refine below_set ?_ ?_ _ | refine below_then ?_ (by assumption) | refine below_drawn ?_ (by assumption) | exact Nat.le_refl _ | omega | (simp; done) | (simp; omega)))⟩
theorem arith_Leap_ok (w : World) (s : ByteArray) (f c : Int) (a1 a2 : Option Addr) (n1 c1 n2 c2 : Nat) (ms : List Mon) (ls : List Int) (y : Int) (hs : s.size ≤ 9223372036854775807) (k1 : n1 ≤ c1) (h : CalAt w a1 a2 n1 n2 ms ls) (q : calErr s f c ms ls = 0) (y1 : -10000 ≤ y) (y2 : y ≤ 10000) :
    Calls Try.prog 61 #[.agg #[.string s, .int .i64 f, .int .i64 c, .slice a1 n1 c1, .slice a2 n2 c2], .int .i64 y] w fun e w' => e = .returned (.tuple #[.bool (flag ls (placeOf c y)), .int .i64 0]) ∧ Below w.heap.size w w' := by
  have ok := calOk_of q
  obtain ⟨r1, r2, r3, r4⟩ := ok_n1 h ok
  have H := Lib.hid h; clear h
  have OK := Lib.hid ok; clear ok
  have HE := Lib.hid (show ayErr (calErr s f c ms ls) y = 0 by rw [q, ayErr_ok y1 y2])
  clear q
  go_enter Try.func61, Try.ntmps61
  go_wp2_with fail
  refine (arith_check _ _ _ _ _ _ _ _ _ _ ms ls y hs k1 (H.out.alloc _)).mono ?_; rw [HE.out]; rintro e w1 ⟨rfl, hb⟩
  have a0 := (At.new w (.cells #[.string s, .int .i64 f, .int .i64 c, .slice a1 n1 c1, .slice a2 n2 c2] 37)).then_ hb
  have b0 : Below w.heap.size w w1 := by (repeat' (first | exact Below.refl _ _ | assumption | refine Below.drew ?_ | refine below_drewN ?_ _ | refine below_new ?_ _ | refine below_set ?_ ?_ _ | refine below_then ?_ (by assumption) | refine below_drawn ?_ (by assumption) | exact Nat.le_refl _ | omega | (simp; done) | (simp; omega)))
  clear hb
  have d0 := a0.cell 0; have d1 := a0.cell 1; have d2 := a0.cell 2; have d3 := a0.cell 3; have d4 := a0.cell 4; simp at d0 d1 d2 d3 d4
  go_wp2_with fail
  refine (arith_leap _ _ _ _ _ _ _ _ _ _ ms ls y OK.out.cy1 OK.out.cy2 OK.out.sorted r3 (by omega) (by omega) (H.out.then_ b0)).mono ?_; rintro e w2 ⟨rfl, hb⟩
  replace b0 := below_then b0 hb
  clear hb d0 d1 d2 d3 d4 a0
  go_wp2_with fail
  go_ret2
  exact ⟨rfl, b0⟩
theorem arith_Month_err (w : World) (s : ByteArray) (f c : Int) (a1 a2 : Option Addr) (n1 c1 n2 c2 : Nat) (ms : List Mon) (ls : List Int) (y m : Int) (hs : s.size ≤ 9223372036854775807) (k1 : n1 ≤ c1) (h : CalAt w a1 a2 n1 n2 ms ls) (q : ayErr (calErr s f c ms ls) y ≠ 0) :
    Calls Try.prog 60 #[.agg #[.string s, .int .i64 f, .int .i64 c, .slice a1 n1 c1, .slice a2 n2 c2], .int .i64 y, .int .i64 m] w fun e w' => e = .returned (.tuple #[.int .i64 0, .int .i64 (ayErr (calErr s f c ms ls) y)]) ∧ Below w.heap.size w w' := by
  have H := Lib.hid h; clear h
  obtain ⟨E, hE⟩ : ∃ E, E = ayErr (calErr s f c ms ls) y := ⟨_, rfl⟩
  rw [← hE] at q ⊢
  have HE := Lib.hid hE; clear hE
  have q' : (E != 0) = true := by simpa using q
  clear q
  go_enter Try.func60, Try.ntmps60
  go_wp2_with fail
  refine (arith_check _ _ _ _ _ _ _ _ _ _ ms ls y hs k1 (H.out.alloc _)).mono ?_; rw [← HE.out]; rintro e w1 ⟨rfl, hb⟩
  go_wp2_with fail
  go_ret2
  exact ⟨rfl, by (repeat' (first | exact Below.refl _ _ | assumption | refine Below.drew ?_ | refine below_drewN ?_ _ | refine below_new ?_ _ | refine below_set ?_ ?_ _ | refine below_then ?_ (by assumption) | refine below_drawn ?_ (by assumption) | exact Nat.le_refl _ | omega | (simp; done) | (simp; omega)))⟩
theorem arith_Month_arg (w : World) (s : ByteArray) (f c : Int) (a1 a2 : Option Addr) (n1 c1 n2 c2 : Nat) (ms : List Mon) (ls : List Int) (y m : Int) (hs : s.size ≤ 9223372036854775807) (k1 : n1 ≤ c1) (h : CalAt w a1 a2 n1 n2 ms ls) (q : calErr s f c ms ls = 0) (y1 : -10000 ≤ y) (y2 : y ≤ 10000) (hm : ¬ (1 ≤ m ∧ m ≤ n1)) :
    Calls Try.prog 60 #[.agg #[.string s, .int .i64 f, .int .i64 c, .slice a1 n1 c1, .slice a2 n2 c2], .int .i64 y, .int .i64 m] w fun e w' => e = .returned (.tuple #[.int .i64 0, .int .i64 1]) ∧ Below w.heap.size w w' := by
  have H := Lib.hid h; clear h
  have HE := Lib.hid (show ayErr (calErr s f c ms ls) y = 0 by rw [q, ayErr_ok y1 y2])
  clear q
  have hq : m < 1 ∨ (1 ≤ m ∧ (n1 : Int) < m) := by omega
  clear hm
  rcases hq with q | ⟨q, q'⟩
  all_goals
    go_enter Try.func60, Try.ntmps60
    go_wp2_with fail
    refine (arith_check _ _ _ _ _ _ _ _ _ _ ms ls y hs k1 (H.out.alloc _)).mono ?_; rw [HE.out]; rintro e w1 ⟨rfl, hb⟩
    have a0 := (At.new w (.cells #[.string s, .int .i64 f, .int .i64 c, .slice a1 n1 c1, .slice a2 n2 c2] 37)).then_ hb
    have b0 : Below w.heap.size w w1 := by (repeat' (first | exact Below.refl _ _ | assumption | refine Below.drew ?_ | refine below_drewN ?_ _ | refine below_new ?_ _ | refine below_set ?_ ?_ _ | refine below_then ?_ (by assumption) | refine below_drawn ?_ (by assumption) | exact Nat.le_refl _ | omega | (simp; done) | (simp; omega)))
    clear hb
    have d0 := a0.cell 0; have d1 := a0.cell 1; have d2 := a0.cell 2; have d3 := a0.cell 3; have d4 := a0.cell 4; simp at d0 d1 d2 d3 d4
    go_wp2_with fail
    go_ret2
    exact ⟨rfl, b0⟩
theorem arith_Month_ok (w : World) (s : ByteArray) (f c : Int) (a1 a2 : Option Addr) (n1 c1 n2 c2 : Nat) (ms : List Mon) (ls : List Int) (y : Int) (k : Nat) (x : Mon) (hs : s.size ≤ 9223372036854775807) (k1 : n1 ≤ c1) (h : CalAt w a1 a2 n1 n2 ms ls) (q : calErr s f c ms ls = 0) (y1 : -10000 ≤ y) (y2 : y ≤ 10000) (hx : ms[k]? = some x) :
    Calls Try.prog 60 #[.agg #[.string s, .int .i64 f, .int .i64 c, .slice a1 n1 c1, .slice a2 n2 c2], .int .i64 y, .int .i64 ((k : Int) + 1)] w fun e w' => e = .returned (.tuple #[.int .i64 (mlenOf x (flag ls (placeOf c y))), .int .i64 0]) ∧ Below w.heap.size w w' := by
  have ok := calOk_of q
  obtain ⟨r1, r2, r3, r4⟩ := ok_n1 h ok
  have hk : k < n1 := by have := (List.getElem?_eq_some_iff.1 hx).1; have := h.1.len; omega
  have H := Lib.hid h; clear h
  have HX := Lib.hid hx; clear hx
  have OK := Lib.hid ok; clear ok
  have HE := Lib.hid (show ayErr (calErr s f c ms ls) y = 0 by rw [q, ayErr_ok y1 y2])
  clear q
  go_enter Try.func60, Try.ntmps60
  go_wp2_with fail
  refine (arith_check _ _ _ _ _ _ _ _ _ _ ms ls y hs k1 (H.out.alloc _)).mono ?_; rw [HE.out]; rintro e w1 ⟨rfl, hb⟩
  have a0 := (At.new w (.cells #[.string s, .int .i64 f, .int .i64 c, .slice a1 n1 c1, .slice a2 n2 c2] 37)).then_ hb
  have b0 : Below w.heap.size w w1 := by (repeat' (first | exact Below.refl _ _ | assumption | refine Below.drew ?_ | refine below_drewN ?_ _ | refine below_new ?_ _ | refine below_set ?_ ?_ _ | refine below_then ?_ (by assumption) | refine below_drawn ?_ (by assumption) | exact Nat.le_refl _ | omega | (simp; done) | (simp; omega)))
  clear hb
  have d0 := a0.cell 0; have d1 := a0.cell 1; have d2 := a0.cell 2; have d3 := a0.cell 3; have d4 := a0.cell 4; simp at d0 d1 d2 d3 d4
  go_wp2_with fail
  refine (arith_length _ _ _ _ _ _ _ _ _ _ ms ls y k x OK.out.cy1 OK.out.cy2 OK.out.sorted r3 (by omega) (by omega) (H.out.then_ b0) r2 HX.out).mono ?_; rintro e w2 ⟨rfl, hb⟩
  replace b0 := below_then b0 hb
  clear hb d0 d1 d2 d3 d4 a0
  go_wp2_with fail
  go_ret2
  exact ⟨rfl, b0⟩
end Go.Proofs.Ytghecclgaaklaaa
