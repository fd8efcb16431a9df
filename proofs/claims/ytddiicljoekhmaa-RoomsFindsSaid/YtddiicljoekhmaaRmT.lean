/- Rooms, plain: what the program's calls answer is what the plain list says. -/
import Derived.Test.YtddiicljoekhmaaRmS
namespace Go.Proofs.Ytddiicljoekhmaa
set_option linter.unusedVariables false
set_option linter.unusedSimpArgs false
open Go.RowKit

def plainE (r : ByteArray) (f t : Int) (x : ByteArray) (l : List Bkg) : Int :=
  if roomNo r < 0 then 5 else if isName x = false then 5 else if stretchE f t ≠ 0 then stretchE f t else if l.any (lapR r f t) = true then 7 else 0
/-- The plain list, and the rows of the two rooms. -/
structure PlainOk (l : List Bkg) (xs1 xs2 : List Bkg) : Prop where
  one : OneEach l
  ord : ∀ y ∈ l, y.2.1 < y.2.2.1
  known : ∀ y ∈ l, 0 ≤ roomNo y.1
  e1 : xs1 = ofF one3 [] l
  e2 : xs2 = ofF two3 [] l
  ok : ∀ y ∈ l, okBkg y
theorem room_0 {r : ByteArray} (h : roomNo r = 0) : r = one3 := by
  unfold roomNo at h
  split at h
  · assumption
  · split at h <;> omega
theorem room_1 {r : ByteArray} (h : roomNo r = 1) : r = two3 := by
  unfold roomNo at h
  split at h
  · omega
  · split at h
    · assumption
    · omega
theorem one_two : one3 ≠ two3 := by decide
theorem no_one : roomNo one3 = 0 := by unfold roomNo; rw [if_pos rfl]
theorem no_two : roomNo two3 = 1 := by unfold roomNo; rw [if_neg (fun h => one_two h.symm), if_pos rfl]
section
variable {l xs1 xs2 : List Bkg} {r x : ByteArray} {f t : Int}
theorem row_of (h : PlainOk l xs1 xs2) (hr : 0 ≤ roomNo r) : rowOf r xs1 xs2 = ofF r [] l := by
  rcases room_cases r with e | ⟨k, hk, e⟩
  · omega
  · match k, hk with
    | 0, _ => obtain rfl := room_0 e; rw [rowOf, e]; exact h.e1
    | 1, _ => obtain rfl := room_1 e; rw [rowOf, e]; exact h.e2
theorem ofF_none (h : PlainOk l xs1 xs2) (hr : roomNo r < 0) : ofF r [] l = [] := by
  rw [List.eq_nil_iff_forall_not_mem]
  intro y hy
  rcases (mem_ofF r l [] y).1 hy with h1 | ⟨h1, h2⟩
  · cases h1
  · have := h.known y h1; rw [h2] at this; omega
theorem insE_len (l : List Bkg) (x : Bkg) : (insE l x).length = l.length + 1 := by
  have h := (bkI_spec l x.2.1 l.length (Nat.le_refl _)).1
  unfold insE
  rw [List.length_append, List.length_append, List.length_take, List.length_drop, List.length_singleton]
  omega
theorem ofF_len (r : ByteArray) : ∀ (l acc : List Bkg), (ofF r acc l).length ≤ acc.length + l.length
  | [], acc => by rw [ofF.eq_def]; simp
  | y :: l, acc => by
    rw [ofF_cons]
    split
    · have := ofF_len r l (insE acc y); rw [insE_len] at this; rw [List.length_cons]; omega
    · have := ofF_len r l acc; rw [List.length_cons]; omega
theorem PlainOk.len1 (h : PlainOk l xs1 xs2) : xs1.length ≤ l.length := by
  have := ofF_len one3 l []; rw [← h.e1] at this; simpa using this
theorem PlainOk.len2 (h : PlainOk l xs1 xs2) : xs2.length ≤ l.length := by
  have := ofF_len two3 l []; rw [← h.e2] at this; simpa using this
theorem any_of (p : Bkg → Bool) (r : ByteArray) (l : List Bkg) : l.any (fun y => decide (y.1 = r) && p y) = (ofF r [] l).any p := by
  rw [Bool.eq_iff_iff, List.any_eq_true, List.any_eq_true]
  constructor
  · rintro ⟨x, hx, h⟩
    rw [Bool.and_eq_true] at h
    exact ⟨x, (mem_ofF r l [] x).2 (.inr ⟨hx, by simpa using h.1⟩), h.2⟩
  · rintro ⟨x, hx, h⟩
    rcases (mem_ofF r l [] x).1 hx with h1 | ⟨h1, h2⟩
    · cases h1
    · exact ⟨x, h1, by rw [Bool.and_eq_true]; exact ⟨by simpa using h2, h⟩⟩
theorem bookE_plain (h : PlainOk l xs1 xs2) (hl : l.length < 200) : bookE r f t x xs1 xs2 = plainE r f t x l := by
  unfold bookE plainE
  by_cases hr : roomNo r < 0
  · rw [if_pos hr, if_pos hr]
  rw [if_neg hr, if_neg hr, row_of h (by omega), ← lap_of]
  have hlen : ¬ 200 ≤ (ofF r [] l).length := by have := ofF_len r l []; simp at this; omega
  rw [if_neg hlen]
theorem plain_zero (hE : plainE r f t x l = 0) : 0 ≤ roomNo r ∧ isName x = true ∧ stretchE f t = 0 ∧ f < t ∧ l.any (lapR r f t) = false := by
  unfold plainE at hE
  by_cases hr : roomNo r < 0
  · rw [if_pos hr] at hE; omega
  rw [if_neg hr] at hE
  by_cases hn : isName x = false
  · rw [if_pos hn] at hE; omega
  rw [if_neg hn] at hE
  by_cases hs : stretchE f t ≠ 0
  · rw [if_pos hs] at hE; exact absurd hE hs
  rw [if_neg hs] at hE
  have hs' : stretchE f t = 0 := by omega
  refine ⟨by omega, by simpa using hn, hs', ?_, ?_⟩
  · unfold stretchE at hs'
    split at hs'
    · omega
    · split at hs' <;> omega
  · cases ha : l.any (lapR r f t) with
    | false => rfl
    | true => rw [if_pos ha] at hE; omega
theorem plain_book (h : PlainOk l xs1 xs2) (hl : l.length < 200) (hE : plainE r f t x l = 0) (hok : okBkg (r, f, t, x)) : PlainOk (l ++ [(r, f, t, x)]) (book1 r f t x xs1 xs2) (book2 r f t x xs1 xs2) := by
  have hB : bookE r f t x xs1 xs2 = 0 := (bookE_plain h hl).trans hE
  obtain ⟨h1, h2, h3, h4, h5⟩ := plain_zero hE
  have hs := sort_of r l h.one
  have hne : ∀ y ∈ l, y.1 = r → y.2.1 ≠ f := fun y hy hyr => by
    refine lap_ne h4 (l := ofF r [] l) (fun z hz => ?_) (by rw [← lap_of]; exact h5) y ((mem_ofF r l [] y).2 (.inr ⟨hy, hyr⟩))
    rcases (mem_ofF r l [] z).1 hz with g1 | ⟨g1, _⟩
    · cases g1
    · exact h.ord z g1
  have hbk := ofF_book (x := x) hs h.ord h4 h5
  refine ⟨oneEach_snoc h.one hne, fun y hy => ?_, fun y hy => ?_, ?_, ?_, fun y hy => ?_⟩
  · rcases List.mem_append.1 hy with hy | hy
    · exact h.ord y hy
    · rw [List.mem_singleton] at hy; subst hy; exact h4
  · rcases List.mem_append.1 hy with hy | hy
    · exact h.known y hy
    · rw [List.mem_singleton] at hy; subst hy; exact h1
  · unfold book1
    by_cases hr : roomNo r = 0
    · obtain rfl := room_0 hr
      rw [if_pos ⟨hB, hr⟩, hbk.1, ← h.e1]
    · rw [if_neg (fun hh => hr hh.2), ofF_other (fun e => hr (by rw [e]; exact no_one)), h.e1]
  · unfold book2
    by_cases hr : roomNo r = 1
    · obtain rfl := room_1 hr
      rw [if_pos ⟨hB, hr⟩, hbk.1, ← h.e2]
    · rw [if_neg (fun hh => hr hh.2), ofF_other (fun e => hr (by rw [e]; exact no_two)), h.e2]
  · rcases List.mem_append.1 hy with hy | hy
    · exact h.ok y hy
    · rw [List.mem_singleton] at hy; subst hy; exact hok
theorem plain_nobook (h : PlainOk l xs1 xs2) (hl : l.length < 200) (hE : plainE r f t x l ≠ 0) : book1 r f t x xs1 xs2 = xs1 ∧ book2 r f t x xs1 xs2 = xs2 := by
  have hB : bookE r f t x xs1 xs2 ≠ 0 := by rw [bookE_plain h hl]; exact hE
  unfold book1 book2
  exact ⟨if_neg (fun hh => hB hh.1), if_neg (fun hh => hB hh.1)⟩
def atR (r : ByteArray) (f : Int) (y : Bkg) : Bool := decide (y.1 = r) && atB f y
def dropP (r : ByteArray) (f : Int) (l : List Bkg) : Int := if roomNo r < 0 then 5 else if idxP (atR r f) l 0 < 0 then 6 else 0
theorem dropE_plain (h : PlainOk l xs1 xs2) : dropE r f xs1 xs2 = dropP r f l := by
  unfold dropE dropP
  by_cases hr : roomNo r < 0
  · rw [if_pos hr, if_pos hr]
  rw [if_neg hr, if_neg hr, row_of h (by omega)]
  have a1 := idxP_any (atB f) (ofF r [] l) 0
  have a2 := idxP_any (atR r f) l 0
  have a3 : l.any (atR r f) = (ofF r [] l).any (atB f) := any_of (atB f) r l
  rw [a3, ← a1] at a2
  have a4 : (0 ≤ idxP (atR r f) l 0) ↔ (0 ≤ idxP (atB f) (ofF r [] l) 0) := by simpa using a2
  by_cases hq : idxP (atR r f) l 0 < 0
  · rw [if_pos hq, if_pos (by omega)]
  · rw [if_neg hq, if_neg (by have := a4.1 (by omega); omega)]
theorem plain_drop (h : PlainOk l xs1 xs2) {i : Nat} (hr : 0 ≤ roomNo r) (hi : idxP (atR r f) l 0 = (i : Int)) : PlainOk (l.take i ++ l.drop (i + 1)) (drop1 r f xs1 xs2) (drop2 r f xs1 xs2) := by
  have hD : dropE r f xs1 xs2 = 0 := by rw [dropE_plain h, dropP, if_neg (by omega), if_neg (by omega)]
  obtain ⟨y, hy, hp⟩ := idxP_get (atR r f) l 0 i (by rw [hi]; simp)
  unfold atR at hp
  rw [Bool.and_eq_true] at hp
  have hp1 : y.1 = r := by simpa using hp.1
  have hp2 : y.2.1 = f := by have := hp.2; unfold atB at this; simpa using this
  obtain ⟨d1, d2⟩ := ofF_drop h.one hy
  rw [hp1, hp2] at d1
  rw [hp1] at d2
  have hsub : ∀ z, z ∈ l.take i ++ l.drop (i + 1) → z ∈ l := fun z hz => by
    rcases List.mem_append.1 hz with hz | hz
    · exact List.mem_of_mem_take hz
    · exact List.mem_of_mem_drop hz
  refine ⟨oneEach_del h.one, fun z hz => h.ord z (hsub z hz), fun z hz => h.known z (hsub z hz), ?_, ?_, fun z hz => h.ok z (hsub z hz)⟩
  · unfold drop1
    by_cases hr0 : roomNo r = 0
    · obtain rfl := room_0 hr0
      rw [if_pos ⟨hD, hr0⟩, d1, ← h.e1]
    · rw [if_neg (fun hh => hr0 hh.2), d2 one3 (fun e => hr0 (by rw [← e]; exact no_one)), h.e1]
  · unfold drop2
    by_cases hr0 : roomNo r = 1
    · obtain rfl := room_1 hr0
      rw [if_pos ⟨hD, hr0⟩, d1, ← h.e2]
    · rw [if_neg (fun hh => hr0 hh.2), d2 two3 (fun e => hr0 (by rw [← e]; exact no_two)), h.e2]
theorem plain_nodrop (h : PlainOk l xs1 xs2) (hE : dropP r f l ≠ 0) : drop1 r f xs1 xs2 = xs1 ∧ drop2 r f xs1 xs2 = xs2 := by
  have hB : dropE r f xs1 xs2 ≠ 0 := by rw [dropE_plain h]; exact hE
  unfold drop1 drop2
  exact ⟨if_neg (fun hh => hB hh.1), if_neg (fun hh => hB hh.1)⟩
theorem plain_list (h : PlainOk l xs1 xs2) : listL r xs1 xs2 = ofF r [] l := by
  unfold listL
  by_cases hr : roomNo r < 0
  · rw [if_pos hr, ofF_none h hr]
  · rw [if_neg hr, row_of h (by omega)]
theorem plain_nil : PlainOk [] [] [] := ⟨List.Pairwise.nil, by simp, by simp, rfl, rfl, by simp⟩
end
end Go.Proofs.Ytddiicljoekhmaa
