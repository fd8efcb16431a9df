/- Several texts in one: Cal, Arith0, Search, Arith1, Arith2. -/
import Derived.Test.YtdmkghgachapaabGreatDoorMgM
import Derived.Shelf.Abstract
set_option linter.unusedSimpArgs false
namespace Go.Proofs.YtdmkghgachapaabGreatDoor
set_option linter.unusedVariables false
set_option maxRecDepth 100000
open Go.RowKit
def incErr (lo hi : Int) : Option Int → List Int → Int
  | _, [] => 0
  | p, y :: l => if inB lo hi y = false then 3 else if (match p with | some q => decide (y ≤ q) | none => false) = true then 9 else incErr lo hi (some y) l
theorem incErr_cons (lo hi : Int) (p : Option Int) (y : Int) (l : List Int) : incErr lo hi p (y :: l) = if inB lo hi y = false then 3 else if (match p with | some q => decide (y ≤ q) | none => false) = true then 9 else incErr lo hi (some y) l := by
  rw [incErr.eq_def]
def prevAt (xs : List Int) : Nat → Option Int
  | 0 => none
  | k + 1 => xs[k]?
def IncTo (lo hi : Int) (xs : List Int) (k : Nat) : Prop := incErr lo hi (prevAt xs k) (xs.drop k) = incErr lo hi none xs
theorem IncTo.start (lo hi : Int) (xs : List Int) : IncTo lo hi xs 0 := rfl
theorem IncTo.range {lo hi : Int} {xs : List Int} {k : Nat} {y : Int} (h : IncTo lo hi xs k) (hx : xs[k]? = some y) (hy : inB lo hi y = false) : incErr lo hi none xs = 3 := by
  rw [← h, drop_one hx, incErr_cons, if_pos hy]
theorem IncTo.first {lo hi : Int} {xs : List Int} {y : Int} (h : IncTo lo hi xs 0) (hx : xs[0]? = some y) (hy : inB lo hi y = true) : IncTo lo hi xs 1 := by
  unfold IncTo at h ⊢
  rw [← h, drop_one hx, incErr_cons, if_neg (by rw [hy]; simp), prevAt, prevAt, hx]
  simp
theorem IncTo.next {lo hi : Int} {xs : List Int} {k : Nat} {y q : Int} (h : IncTo lo hi xs (k + 1)) (hx : xs[k + 1]? = some y) (hq : xs[k]? = some q) (hy : inB lo hi y = true) (hle : ¬ y ≤ q) : IncTo lo hi xs (k + 1 + 1) := by
  unfold IncTo at h ⊢
  rw [← h, drop_one hx, incErr_cons, if_neg (by rw [hy]; simp), prevAt, prevAt, hq, hx, if_neg (by simpa using hle)]
theorem IncTo.last {lo hi : Int} {xs : List Int} {k : Nat} (h : IncTo lo hi xs k) (hk : xs.length ≤ k) : incErr lo hi none xs = 0 := by
  rw [← h, List.drop_eq_nil_of_le hk, incErr]
def calErr (s : ByteArray) (f c : Int) (ms : List Mon) (ls : List Int) : Int := if headErr s f c ≠ 0 then headErr s f c else if monthsErr ms ≠ 0 then monthsErr ms else incErr 1 c none ls
theorem calErr_head {s : ByteArray} {f c : Int} {ms : List Mon} {ls : List Int} (h : headErr s f c ≠ 0) : calErr s f c ms ls = headErr s f c := if_pos h
theorem calErr_months {s : ByteArray} {f c : Int} {ms : List Mon} {ls : List Int} (h : headErr s f c = 0) (h' : monthsErr ms ≠ 0) : calErr s f c ms ls = monthsErr ms := by rw [calErr, if_neg (by omega), if_pos h']
theorem calErr_leaps {s : ByteArray} {f c : Int} {ms : List Mon} {ls : List Int} (h : headErr s f c = 0) (h' : monthsErr ms = 0) : calErr s f c ms ls = incErr 1 c none ls := by rw [calErr, if_neg (by omega), if_neg (by omega)]
theorem headErr_name {s : ByteArray} {f c : Int} (h : isName s = false) : headErr s f c = 5 := by rw [headErr, if_pos h]
theorem headErr_range {s : ByteArray} {f c : Int} (h : isName s = true) (h' : (inB (-4000000) 4000000 f && inB 1 3000 c) = false) : headErr s f c = 3 := by rw [headErr, if_neg (by rw [h]; simp), if_pos h']
end Go.Proofs.YtdmkghgachapaabGreatDoor

set_option linter.unusedSimpArgs false
namespace Go.Proofs.YtdmkghgachapaabGreatDoor
set_option linter.unusedVariables false
set_option maxRecDepth 100000
theorem incErr_zero (lo hi : Int) : ∀ (l : List Int) (p : Option Int), incErr lo hi p l = 0 → (∀ y ∈ l, lo ≤ y ∧ y ≤ hi) ∧ l.Pairwise (· < ·) ∧ (∀ q, p = some q → ∀ y ∈ l, q < y)
  | [], p, _ => ⟨by simp, List.Pairwise.nil, by simp⟩
  | y :: l, p, h => by
    rw [incErr_cons] at h
    rcases inB_cases lo hi y with ⟨hy, h1, h2⟩ | ⟨hy, _⟩
    · rw [if_neg (by rw [hy]; simp)] at h
      have key : incErr lo hi (some y) l = 0 ∧ ∀ q, p = some q → q < y := by
        cases p with
        | none => exact ⟨by simpa using h, by simp⟩
        | some q =>
          by_cases hq : y ≤ q
          · simp only [decide_eq_true hq, if_true] at h; omega
          · simp only [decide_eq_false hq] at h
            exact ⟨by simpa using h, fun q' e => by injection e with e; omega⟩
      obtain ⟨a, b, c⟩ := incErr_zero lo hi l (some y) key.1
      refine ⟨?_, List.pairwise_cons.2 ⟨fun z hz => c y rfl z hz, b⟩, ?_⟩
      · intro z hz
        rcases List.mem_cons.1 hz with rfl | hz
        · exact ⟨h1, h2⟩
        · exact a z hz
      · intro q hq z hz
        have hq' := key.2 q hq
        rcases List.mem_cons.1 hz with rfl | hz
        · exact hq'
        · have := c y rfl z hz; omega
    · rw [if_pos hy] at h; omega
theorem monthsGo_zero : ∀ (l : List Mon) (seen : List ByteArray) (a b : Int), monthsGo seen a b l = 0 → (∀ x ∈ l, 0 ≤ x.2.1 ∧ x.2.1 ≤ 400 ∧ 0 ≤ x.2.2 ∧ x.2.2 ≤ 400) ∧ a + shortOf l ≠ 0 ∧ b + longOf l ≠ 0
  | [], seen, a, b, h => by
    rw [monthsGo] at h
    refine ⟨by simp, ?_, ?_⟩
    · simp [shortOf]; intro h'; rw [if_pos (.inl h')] at h; omega
    · simp [longOf]; intro h'; rw [if_pos (.inr h')] at h; omega
  | (s, f, g) :: l, seen, a, b, h => by
    rw [monthsGo_cons] at h
    split at h
    · omega
    · split at h
      · omega
      · split at h
        · omega
        · rename_i hr
          obtain ⟨p, q, r⟩ := monthsGo_zero l _ _ _ h
          have hr' : inB 0 400 f = true ∧ inB 0 400 g = true := by
            rw [Bool.not_eq_false, Bool.and_eq_true] at hr; exact hr
          have hf := inB_iff.1 hr'.1
          have hg := inB_iff.1 hr'.2
          refine ⟨?_, ?_, ?_⟩
          · intro x hx
            rcases List.mem_cons.1 hx with rfl | hx
            · exact ⟨hf.1, hf.2, hg.1, hg.2⟩
            · exact p x hx
          · have : shortOf ((s, f, g) :: l) = f + shortOf l := by simp [shortOf]
            rw [this]; omega
          · have : longOf ((s, f, g) :: l) = g + longOf l := by simp [longOf]
            rw [this]; omega
theorem sums_bound : ∀ (l : List Mon), (∀ x ∈ l, 0 ≤ x.2.1 ∧ x.2.1 ≤ 400 ∧ 0 ≤ x.2.2 ∧ x.2.2 ≤ 400) → 0 ≤ shortOf l ∧ shortOf l ≤ 400 * l.length ∧ 0 ≤ longOf l ∧ longOf l ≤ 400 * l.length
  | [], _ => by simp [shortOf, longOf]
  | x :: l, h => by
    have h1 := sums_bound l fun y hy => h y (List.mem_cons_of_mem _ hy)
    have h2 := h x List.mem_cons_self
    have e1 : shortOf (x :: l) = x.2.1 + shortOf l := by simp [shortOf]
    have e2 : longOf (x :: l) = x.2.2 + longOf l := by simp [longOf]
    rw [e1, e2, List.length_cons]; omega
structure CalOk (s : ByteArray) (f c : Int) (ms : List Mon) (ls : List Int) : Prop where
  name : isName s = true
  ep1 : -4000000 ≤ f
  ep2 : f ≤ 4000000
  cy1 : 1 ≤ c
  cy2 : c ≤ 3000
  ml1 : 1 ≤ ms.length
  ml2 : ms.length ≤ 20
  lens : ∀ x ∈ ms, 0 ≤ x.2.1 ∧ x.2.1 ≤ 400 ∧ 0 ≤ x.2.2 ∧ x.2.2 ≤ 400
  sh1 : 1 ≤ shortOf ms
  sh2 : shortOf ms ≤ 8000
  lo1 : 1 ≤ longOf ms
  lo2 : longOf ms ≤ 8000
  leaps : ∀ y ∈ ls, 1 ≤ y ∧ y ≤ c
  sorted : ls.Pairwise (· < ·)
theorem calOk_of {s : ByteArray} {f c : Int} {ms : List Mon} {ls : List Int} (h : calErr s f c ms ls = 0) : CalOk s f c ms ls := by
  have h1 : headErr s f c = 0 := by
    by_cases q : headErr s f c = 0
    · exact q
    · rw [calErr_head q] at h; exact absurd h q
  have h2 : monthsErr ms = 0 := by
    by_cases q : monthsErr ms = 0
    · exact q
    · rw [calErr_months h1 q] at h; exact absurd h q
  rw [calErr_leaps h1 h2] at h
  have hn : isName s = true := by
    cases hh : isName s with
    | true => rfl
    | false => rw [headErr_name hh] at h1; omega
  have hr : (inB (-4000000) 4000000 f && inB 1 3000 c) = true := by
    cases hh : (inB (-4000000) 4000000 f && inB 1 3000 c) with
    | true => rfl
    | false => rw [headErr_range hn hh] at h1; omega
  rw [Bool.and_eq_true] at hr
  have hf := inB_iff.1 hr.1
  have hc := inB_iff.1 hr.2
  have hl : 1 ≤ ms.length ∧ ms.length ≤ 20 := by
    by_cases q : 1 ≤ ms.length ∧ ms.length ≤ 20
    · exact q
    · rw [monthsErr, if_pos q] at h2; omega
  rw [monthsErr, if_neg (fun q => q hl)] at h2
  obtain ⟨a, b, d⟩ := monthsGo_zero ms _ _ _ h2
  have hb := sums_bound ms a
  obtain ⟨e, g, _⟩ := incErr_zero 1 c ls none h
  exact ⟨hn, hf.1, hf.2, hc.1, hc.2, hl.1, hl.2, a, by omega, by omega, by omega, by omega, e, g⟩
def cnt (ls : List Int) (k : Int) : Nat := (ls.filter fun y => decide (y ≤ k)).length
theorem cnt_cons (y : Int) (l : List Int) (k : Int) : cnt (y :: l) k = (if y ≤ k then 1 else 0) + cnt l k := by
  unfold cnt
  rw [List.filter_cons]
  by_cases h : y ≤ k
  · simp [h]; omega
  · simp [h]
theorem cnt_zero {l : List Int} {k : Int} (h : ∀ y ∈ l, k < y) : cnt l k = 0 := by
  unfold cnt
  rw [List.length_eq_zero_iff, List.filter_eq_nil_iff]
  intro y hy
  have := h y hy
  simp; omega
theorem cnt_all {l : List Int} {k : Int} (h : ∀ y ∈ l, y ≤ k) : cnt l k = l.length := by
  unfold cnt
  rw [List.filter_eq_self.2 (fun y hy => by simpa using h y hy)]
theorem cnt_succ (k : Int) : ∀ (l : List Int), l.Pairwise (· < ·) → cnt l (k + 1) = cnt l k + if k + 1 ∈ l then 1 else 0
  | [], _ => by simp [cnt]
  | y :: l, h => by
    obtain ⟨h1, h2⟩ := List.pairwise_cons.1 h
    have ih := cnt_succ k l h2
    rw [cnt_cons, cnt_cons]
    by_cases hy : y ≤ k
    · rw [if_pos hy, if_pos (by omega), ih]
      have : (k + 1 ∈ y :: l) ↔ k + 1 ∈ l := by
        rw [List.mem_cons]
        constructor
        · rintro (q | q)
          · omega
          · exact q
        · exact .inr
      simp only [this]
      omega
    · by_cases hy2 : y = k + 1
      · subst hy2
        have z1 : cnt l (k + 1) = 0 := cnt_zero h1
        have z2 : cnt l k = 0 := cnt_zero fun z hz => by have := h1 z hz; omega
        rw [if_pos (by omega), if_neg hy, z1, z2, if_pos List.mem_cons_self]
      · have z1 : cnt l (k + 1) = 0 := cnt_zero fun z hz => by have := h1 z hz; omega
        have z2 : cnt l k = 0 := cnt_zero fun z hz => by have := h1 z hz; omega
        have nm : ¬ (k + 1 ∈ y :: l) := by
          intro q
          rcases List.mem_cons.1 q with q | q
          · omega
          · have := h1 _ q; omega
        rw [if_neg (by omega), if_neg hy, z1, z2, if_neg nm]
theorem cnt_le (l : List Int) (h : l.Pairwise (· < ·)) (h1 : ∀ y ∈ l, 1 ≤ y) : ∀ k : Nat, cnt l k ≤ k
  | 0 => by rw [cnt_zero fun y hy => by have := h1 y hy; omega]; omega
  | k + 1 => by
    have := cnt_le l h h1 k
    have e := cnt_succ (k : Int) l h
    have e' : cnt l ((k + 1 : Nat) : Int) = cnt l ((k : Int) + 1) := by congr 1
    rw [e', e]
    split <;> omega
theorem CalOk.count {s : ByteArray} {f c : Int} {ms : List Mon} {ls : List Int} (h : CalOk s f c ms ls) : cnt ls c = ls.length ∧ (ls.length : Int) ≤ c := by
  have h1 := cnt_all (l := ls) (k := c) fun y hy => (h.leaps y hy).2
  have h2 := cnt_le ls h.sorted (fun y hy => (h.leaps y hy).1) c.toNat
  rw [show ((c.toNat : Nat) : Int) = c by have := h.cy1; omega] at h2
  exact ⟨h1, by have := h.cy1; omega⟩
def flag (ls : List Int) (i : Int) : Bool := decide (i + 1 ∈ ls)
def daysTo (S L : Int) (ls : List Int) (i : Int) : Int := i * S + (cnt ls i : Int) * (L - S)
def lenY (S L : Int) (b : Bool) : Int := bif b then L else S
theorem daysTo_succ (S L : Int) (ls : List Int) (i : Int) (h : ls.Pairwise (· < ·)) : daysTo S L ls (i + 1) = daysTo S L ls i + lenY S L (flag ls i) := by
  unfold daysTo lenY flag
  rw [cnt_succ i ls h]
  by_cases q : i + 1 ∈ ls
  · rw [if_pos q, decide_eq_true q]
    simp only [cond_true, Int.natCast_add, Int.add_mul]
    omega
  · rw [if_neg q, decide_eq_false q]
    simp only [cond_false, Int.add_mul, Nat.add_zero]
    omega
theorem daysTo_zero (S L : Int) (ls : List Int) (h : ∀ y ∈ ls, 1 ≤ y) : daysTo S L ls 0 = 0 := by
  unfold daysTo
  rw [cnt_zero fun y hy => by have := h y hy; omega]
  simp
end Go.Proofs.YtdmkghgachapaabGreatDoor

set_option linter.unusedSimpArgs false
namespace Go.Proofs.YtdmkghgachapaabGreatDoor
set_option linter.unusedVariables false
set_option maxRecDepth 100000
open Go.RowKit
end Go.Proofs.YtdmkghgachapaabGreatDoor

set_option linter.unusedSimpArgs false
namespace Go.Proofs.YtdmkghgachapaabGreatDoor
set_option linter.unusedVariables false
set_option maxRecDepth 100000
open Go.RowKit
def CalAt (w : World) (a1 a2 : Option Addr) (n1 n2 : Nat) (ms : List Mon) (ls : List Int) : Prop := Months w w.heap.size a1 n1 ms ∧ Ints w w.heap.size a2 n2 ls
theorem CalAt.then_ {w w' : World} {a1 a2 : Option Addr} {n1 n2 : Nat} {ms : List Mon} {ls : List Int} (h : CalAt w a1 a2 n1 n2 ms ls) (hb : Below w.heap.size w w') : CalAt w' a1 a2 n1 n2 ms ls :=
  ⟨(h.1.below hb (Nat.le_refl _)).more hb.size, (h.2.below hb (Nat.le_refl _)).more hb.size⟩
theorem CalAt.alloc {w : World} {a1 a2 : Option Addr} {n1 n2 : Nat} {ms : List Mon} {ls : List Int} (h : CalAt w a1 a2 n1 n2 ms ls) (o : Obj) : CalAt (w.alloc o) a1 a2 n1 n2 ms ls := h.then_ (below_new (Below.refl _ _) o)
end Go.Proofs.YtdmkghgachapaabGreatDoor

set_option linter.unusedSimpArgs false
namespace Go.Proofs.YtdmkghgachapaabGreatDoor
set_option linter.unusedVariables false
set_option maxRecDepth 100000
open Go.RowKit
theorem daysTo_bound (S L : Int) (ls : List Int) (i : Int) (h1 : 0 ≤ i) (h2 : i ≤ 3000) (s1 : 1 ≤ S) (s2 : S ≤ 8000) (l1 : 1 ≤ L) (l2 : L ≤ 8000) (hp : ls.Pairwise (· < ·)) (hl : ∀ y ∈ ls, 1 ≤ y) : i ≤ daysTo S L ls i ∧ daysTo S L ls i ≤ 8000 * i := by
  have key : ∀ k : Nat, k ≤ 3000 → (k : Int) ≤ daysTo S L ls k ∧ daysTo S L ls k ≤ 8000 * k := by
    intro k
    induction k with
    | zero => intro _; have := daysTo_zero S L ls hl; simp [this]
    | succ k ih =>
      intro hk
      have h := daysTo_succ S L ls k hp
      have := ih (by omega)
      have e : ((k + 1 : Nat) : Int) = (k : Int) + 1 := by omega
      rw [e, h]
      cases flag ls k <;> simp only [lenY, cond_true, cond_false] <;> omega
  have := key i.toNat (by omega)
  rwa [show ((i.toNat : Nat) : Int) = i by omega] at this
end Go.Proofs.YtdmkghgachapaabGreatDoor
