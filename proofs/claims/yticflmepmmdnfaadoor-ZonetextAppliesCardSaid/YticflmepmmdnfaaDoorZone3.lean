/- Contracts of zone.offset, zone.check, zone.Offset, zone.Local, zone.Next and of the reference's OffsetAt. -/
import Derived.Test.YticflmepmmdnfaaDoorZoneBase
namespace Go.Proofs.YticflmepmmdnfaaDoor
set_option linter.unusedVariables false
set_option maxRecDepth 100000
open Go.RowKit

/-- The last change up to an instant, changes in order: the walk stops behind it. -/
def offTo (t : Int) : Int × ByteArray → List Chg → Int × ByteArray
  | acc, [] => acc
  | acc, (a, o, l) :: r => if t < a then acc else offTo t (o, l) r
theorem offTo_cons (t : Int) (acc : Int × ByteArray) (a o : Int) (l : ByteArray) (r : List Chg) : offTo t acc ((a, o, l) :: r) = if t < a then acc else offTo t (o, l) r := by rw [offTo.eq_def]
/-- The same, all changes looked at. -/
def offAll (t : Int) : Int × ByteArray → List Chg → Int × ByteArray
  | acc, [] => acc
  | acc, (a, o, l) :: r => if a ≤ t then offAll t (o, l) r else offAll t acc r
theorem offAll_cons (t : Int) (acc : Int × ByteArray) (a o : Int) (l : ByteArray) (r : List Chg) : offAll t acc ((a, o, l) :: r) = if a ≤ t then offAll t (o, l) r else offAll t acc r := by rw [offAll.eq_def]
theorem chgErr_zero : ∀ (l : List Chg) (p : Option Int), chgErr p l = 0 → (∀ x ∈ l, instB x.1 = true ∧ offB x.2.1 = true) ∧ l.Pairwise (fun x y => x.1 < y.1) ∧ (∀ q, p = some q → ∀ x ∈ l, q < x.1)
  | [], p, _ => ⟨by simp, List.Pairwise.nil, by simp⟩
  | (t, o, lb) :: l, p, h => by
    rw [chgErr_cons] at h
    by_cases h1 : (instB t && offB o) = false
    · rw [if_pos h1] at h; omega
    rw [if_neg h1] at h
    by_cases h2 : labelB lb = false
    · rw [if_pos h2] at h; omega
    rw [if_neg h2] at h
    have hp : chgErr (some t) l = 0 ∧ ∀ q, p = some q → q < t := by
      cases p with
      | none => exact ⟨by simpa using h, by simp⟩
      | some q =>
        by_cases hq : t ≤ q
        · simp only [decide_eq_true hq, if_true] at h; omega
        · simp only [decide_eq_false hq] at h
          exact ⟨by simpa using h, fun q' e => by injection e with e; omega⟩
    obtain ⟨a, b, c⟩ := chgErr_zero l (some t) hp.1
    rw [Bool.not_eq_false, Bool.and_eq_true] at h1
    refine ⟨fun x hx => ?_, List.pairwise_cons.2 ⟨fun x hx => c t rfl x hx, b⟩, fun q hq x hx => ?_⟩
    · rcases List.mem_cons.1 hx with rfl | hx
      · exact h1
      · exact a x hx
    · have := hp.2 q hq
      rcases List.mem_cons.1 hx with rfl | hx
      · exact this
      · have := c t rfl x hx; omega
theorem offAll_late (t : Int) : ∀ (l : List Chg) (acc : Int × ByteArray), (∀ x ∈ l, t < x.1) → offAll t acc l = acc
  | [], acc, _ => rfl
  | (a, o, lb) :: l, acc, h => by
    have ha := h (a, o, lb) List.mem_cons_self
    simp only at ha
    rw [offAll_cons, if_neg (by omega)]
    exact offAll_late t l acc fun x hx => h x (List.mem_cons_of_mem _ hx)
theorem off_same (t : Int) : ∀ (l : List Chg) (acc : Int × ByteArray), l.Pairwise (fun x y => x.1 < y.1) → offTo t acc l = offAll t acc l
  | [], acc, _ => rfl
  | (a, o, lb) :: l, acc, h => by
    obtain ⟨h1, h2⟩ := List.pairwise_cons.1 h
    rw [offTo_cons, offAll_cons]
    by_cases q : t < a
    · rw [if_pos q, if_neg (by omega), offAll_late t l acc fun x hx => by have := h1 x hx; simp only at this; omega]
    · rw [if_neg q, if_pos (by omega)]; exact off_same t l (o, lb) h2
theorem offTo_in (t : Int) : ∀ (l : List Chg) (acc : Int × ByteArray), (offB acc.1 = true) → (∀ x ∈ l, offB x.2.1 = true) → offB (offTo t acc l).1 = true
  | [], acc, h, _ => h
  | (a, o, lb) :: l, acc, h, hl => by
    rw [offTo_cons]
    split
    · exact h
    · exact offTo_in t l (o, lb) (hl (a, o, lb) List.mem_cons_self) fun x hx => hl x (List.mem_cons_of_mem _ hx)
theorem offB_bound {n : Int} (h : offB n = true) : -64800000 ≤ n ∧ n ≤ 64800000 := by
  unfold offB at h; rw [Bool.and_eq_true] at h; exact inB_iff.1 h.2
theorem instB_bound {t : Int} (h : instB t = true) : -345600000000000 ≤ t ∧ t < 345600086400000 := by
  have := inB_iff.1 (show inB (-4000000) 4000000 (t / 86400000) = true from h); omega
structure ZoneOk (f : Int) (xs : List Chg) : Prop where
  first : offB f = true
  len : xs.length ≤ 200
  each : ∀ x ∈ xs, instB x.1 = true ∧ offB x.2.1 = true
  order : xs.Pairwise (fun x y => x.1 < y.1)
theorem zoneOk_of {s : ByteArray} {f : Int} {xs : List Chg} (h : zoneErr s f xs = 0) : ZoneOk f xs := by
  unfold zoneErr at h
  by_cases h1 : isName s = false
  · rw [if_pos h1] at h; omega
  rw [if_neg h1] at h
  by_cases h2 : offB f = false
  · rw [if_pos h2] at h; omega
  rw [if_neg h2] at h
  by_cases h3 : 200 < xs.length
  · rw [if_pos h3] at h; omega
  rw [if_neg h3] at h
  obtain ⟨a, b, _⟩ := chgErr_zero xs none h
  exact ⟨by simpa using h2, by omega, a, b⟩

def noText : ByteArray := ⟨#[]⟩
/-- The error of a zone and an instant. -/
def zchk (s : ByteArray) (f : Int) (xs : List Chg) (t : Int) : Int := if zoneErr s f xs ≠ 0 then zoneErr s f xs else if instB t = true then 0 else 3
/-- The first change after an instant. -/
def nextTo (t : Int) : List Chg → Option Chg
  | [] => none
  | x :: r => if t < x.1 then some x else nextTo t r
theorem nextTo_cons (t : Int) (x : Chg) (r : List Chg) : nextTo t (x :: r) = if t < x.1 then some x else nextTo t r := by rw [nextTo.eq_def]
def nextOut (t : Int) (xs : List Chg) : Value := match nextTo t xs with
  | some x => .tuple #[.agg #[.int .i64 x.1, .int .i64 x.2.1, .string x.2.2], .int .i64 0]
  | none => .tuple #[.agg #[.int .i64 0, .int .i64 0, .string ⟨#[]⟩], .int .i64 6]
end Go.Proofs.YticflmepmmdnfaaDoor
