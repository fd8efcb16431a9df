/- The year and the month of a day in an arithmetic calendar, plain. -/
import Derived.Test.YtjekdceicjnamaaToDay
namespace Go.Proofs.Ytjekdceicjnamaa
set_option linter.unusedVariables false
set_option maxRecDepth 100000

theorem nyOf_succ {s : ByteArray} {f c : Int} {ms : List Mon} {ls : List Int} (ok : CalOk s f c ms ls) (y : Int) :
    nyOf (shortOf ms) (longOf ms) f c ls (y + 1) = nyOf (shortOf ms) (longOf ms) f c ls y + lenY (shortOf ms) (longOf ms) (flag ls (placeOf c y)) := by
  have hc := ok.cy1
  have p := placeOf_in c y hc
  have h1 : c * ((y - 1) / c) + (y - 1) % c = y - 1 := Int.mul_ediv_add_emod _ _
  have hp : (y - 1) % c = placeOf c y := rfl
  have hs := daysTo_succ (shortOf ms) (longOf ms) ls (placeOf c y) ok.sorted
  have h0 := daysTo_zero (shortOf ms) (longOf ms) ls (fun z hz => (ok.leaps z hz).1)
  unfold nyOf
  rw [show y + 1 - 1 = y by omega, hp]
  by_cases hl : placeOf c y + 1 = c
  · have e : y = 0 + c * ((y - 1) / c + 1) := by rw [Int.mul_add]; rw [hp] at h1; omega
    have e1 : y / c = (y - 1) / c + 1 := by
      conv => lhs; rw [e]
      rw [Int.add_mul_ediv_left _ _ (by omega)]; simp
    have e2 : y % c = 0 := by
      conv => lhs; rw [e]
      rw [Int.add_mul_emod_self_left]; simp
    rw [e1, e2, h0, Int.add_mul]
    rw [hl] at hs
    omega
  · have e : y = (placeOf c y + 1) + c * ((y - 1) / c) := by rw [hp] at h1; omega
    have e1 : y / c = (y - 1) / c := by
      conv => lhs; rw [e]
      rw [Int.add_mul_ediv_left _ _ (by omega), Int.ediv_eq_zero_of_lt (by omega) (by omega)]; simp
    have e2 : y % c = placeOf c y + 1 := by
      conv => lhs; rw [e]
      rw [Int.add_mul_emod_self_left, Int.emod_eq_of_lt (by omega) (by omega)]
    rw [e1, e2, hs]
    omega
theorem lenY_pos {s : ByteArray} {f c : Int} {ms : List Mon} {ls : List Int} (ok : CalOk s f c ms ls) (b : Bool) : 1 ≤ lenY (shortOf ms) (longOf ms) b ∧ lenY (shortOf ms) (longOf ms) b ≤ 8000 := by
  have h1 := ok.sh1; have h2 := ok.sh2; have h3 := ok.lo1; have h4 := ok.lo2
  unfold lenY; cases b <;> simp only [cond_true, cond_false] <;> omega
theorem nyOf_mono {s : ByteArray} {f c : Int} {ms : List Mon} {ls : List Int} (ok : CalOk s f c ms ls) (a : Int) (n : Nat) : nyOf (shortOf ms) (longOf ms) f c ls a + n ≤ nyOf (shortOf ms) (longOf ms) f c ls (a + n) := by
  induction n with
  | zero => simp
  | succ n ih =>
    have h := nyOf_succ ok (a + n)
    have p := lenY_pos ok (flag ls (placeOf c (a + n)))
    rw [show a + ((n + 1 : Nat) : Int) = a + n + 1 by omega, h]
    omega
theorem nyOf_lt {s : ByteArray} {f c : Int} {ms : List Mon} {ls : List Int} (ok : CalOk s f c ms ls) {a b : Int} (h : a ≤ b) : nyOf (shortOf ms) (longOf ms) f c ls a + (b - a) ≤ nyOf (shortOf ms) (longOf ms) f c ls b := by
  have := nyOf_mono ok a (b - a).toNat
  rw [show a + (((b - a).toNat : Nat) : Int) = b by omega] at this
  omega
/-- The day lies in the year. -/
def InYear (ms : List Mon) (ls : List Int) (f c y x : Int) : Prop := nyOf (shortOf ms) (longOf ms) f c ls y ≤ x ∧ x < nyOf (shortOf ms) (longOf ms) f c ls (y + 1)
theorem InYear.unique {s : ByteArray} {f c : Int} {ms : List Mon} {ls : List Int} (ok : CalOk s f c ms ls) {y y' x : Int} (h : InYear ms ls f c y x) (h' : InYear ms ls f c y' x) : y = y' := by
  rcases Int.lt_trichotomy y y' with q | q | q
  · have := nyOf_lt ok (show y + 1 ≤ y' by omega); have := h.2; have := h'.1; omega
  · exact q
  · have := nyOf_lt ok (show y' + 1 ≤ y by omega); have := h'.2; have := h.1; omega
/-- The month of a day of a year, from 0 on, and the days before it. -/
def findM (b : Bool) : List Mon → Int → Nat → Nat × Int
  | [], r, k => (k, r)
  | x :: l, r, k => if r < mlenOf x b then (k, r) else findM b l (r - mlenOf x b) (k + 1)
theorem findM_cons (b : Bool) (x : Mon) (l : List Mon) (r : Int) (k : Nat) : findM b (x :: l) r k = if r < mlenOf x b then (k, r) else findM b l (r - mlenOf x b) (k + 1) := by rw [findM.eq_def]
/-- k months are passed. -/
def FindTo (b : Bool) (ms : List Mon) (r0 : Int) (k : Nat) (r : Int) : Prop := k ≤ ms.length ∧ 0 ≤ r ∧ r = r0 - sumM ms b k ∧ findM b (ms.drop k) r k = findM b ms r0 0
theorem FindTo.start (b : Bool) (ms : List Mon) (r0 : Int) (h : 0 ≤ r0) : FindTo b ms r0 0 r0 := ⟨by omega, h, by rw [sumM_zero]; omega, rfl⟩
theorem FindTo.stop {b : Bool} {ms : List Mon} {r0 r : Int} {k : Nat} {x : Mon} (h : FindTo b ms r0 k r) (hx : ms[k]? = some x) (hr : r < mlenOf x b) : findM b ms r0 0 = (k, r) := by
  rw [← h.2.2.2, drop_one hx, findM_cons, if_pos hr]
theorem FindTo.next {b : Bool} {ms : List Mon} {r0 r : Int} {k : Nat} {x : Mon} (h : FindTo b ms r0 k r) (hx : ms[k]? = some x) (hr : ¬ r < mlenOf x b) : FindTo b ms r0 (k + 1) (r - mlenOf x b) := by
  refine ⟨by have := (List.getElem?_eq_some_iff.1 hx).1; omega, by omega, ?_, ?_⟩
  · rw [sumM_succ hx]; have := h.2.2.1; omega
  · rw [← h.2.2.2, drop_one hx, findM_cons, if_neg hr]
theorem sumM_all (ms : List Mon) (b : Bool) : sumM ms b ms.length = lenY (shortOf ms) (longOf ms) b := by
  unfold sumM lenY shortOf longOf
  rw [List.take_length]
  cases b <;> rfl
theorem FindTo.in_ {b : Bool} {ms : List Mon} {r0 r : Int} {k : Nat} (h : FindTo b ms r0 k r) (hr : r0 < lenY (shortOf ms) (longOf ms) b) : k < ms.length := by
  rcases Nat.lt_or_ge k ms.length with q | q
  · exact q
  · have : k = ms.length := by have := h.1; omega
    have h3 := h.2.2.1
    rw [this, sumM_all] at h3
    have := h.2.1; omega
/-- What a day's date is. -/
def dateAt (y : Int) (k : Nat) (r : Int) : Value := .tuple #[.agg #[.int .i64 y, .int .i64 ((k : Int) + 1), .int .i64 (r + 1)], .int .i64 0]
def noDate : Value := .tuple #[.agg #[.int .i64 0, .int .i64 0, .int .i64 0], .int .i64 3]
end Go.Proofs.Ytjekdceicjnamaa
