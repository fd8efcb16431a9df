/- What zonetext.Parse and the reference's ZoneRead answer: lines and rows, plain. -/
import Derived.Test.YthpiiocncdpimabDoorZrd0
import Derived.Test.YthpiiocncdpimabDoorZone0
import Derived.Test.YthpiiocncdpimabDoorSpl
import Derived.Test.YthpiiocncdpimabDoorCut0
namespace Go.Proofs.YthpiiocncdpimabDoor
set_option linter.unusedVariables false
set_option linter.unusedSimpArgs false
set_option maxRecDepth 100000
open Go.RowKit Go.Shelf Num

def numOkP (l : List UInt8) : Bool := atoiOk l && (Lib.itoa (atoiV l) == l)
theorem num_plain {l : List UInt8} (h : plainOk l = true) : numOkP l = true ∧ atoiV l = plainNum l := by
  have h1 := itoa_plain h
  obtain ⟨b1, b2⟩ := plain_bound h
  obtain ⟨v1, v2⟩ := atoiV_itoa (n := plainNum l) (by omega) (by omega)
  rw [h1] at v1 v2
  refine ⟨?_, v1⟩
  unfold numOkP; rw [v1, v2, h1]; simp
theorem plain_num {l : List UInt8} (h : numOkP l = true) (b1 : -100000000000000000 < atoiV l) (b2 : atoiV l < 100000000000000000) : plainOk l = true ∧ plainNum l = atoiV l := by
  unfold numOkP at h
  rw [Bool.and_eq_true, beq_iff_eq] at h
  have := plain_itoa (atoiV l) b1 b2
  rw [h.2] at this
  exact this
abbrev ZSt := ByteArray × Int × List Chg
def z0S : ZSt := (⟨#[]⟩, 0, [])
def dayO (d : Int) : Bool := inB (-4000000) 4000000 d
def msO (m : Int) : Bool := inB 0 86399999 m
def bS (l : List UInt8) : ByteArray := ⟨l.toArray⟩
def chgOkP (w : List (List UInt8)) : Bool := numOkP (w.getD 1 []) && numOkP (w.getD 2 []) && offOkP (w.getD 3 []) && dayO (atoiV (w.getD 1 [])) && msO (atoiV (w.getD 2 []))
def chgOkR (w : List (List UInt8)) : Bool := plainOk (w.getD 1 []) && plainOk (w.getD 2 []) && offOkR (w.getD 3 []) && dayO (plainNum (w.getD 1 [])) && msO (plainNum (w.getD 2 []))
def chgVP (w : List (List UInt8)) : Chg := (atoiV (w.getD 1 []) * 86400000 + atoiV (w.getD 2 []), offNP (w.getD 3 []), bS (w.getD 4 []))
def chgVR (w : List (List UInt8)) : Chg := (plainNum (w.getD 1 []) * 86400000 + plainNum (w.getD 2 []), offVR (w.getD 3 []), bS (w.getD 4 []))
def zoneW : List UInt8 := [122, 111, 110, 101]
def atW : List UInt8 := [97, 116]
theorem dayO_bound {d : Int} (h : dayO d = true) : -4000000 ≤ d ∧ d ≤ 4000000 := by unfold dayO inB at h; simpa using h
theorem msO_bound {d : Int} (h : msO d = true) : 0 ≤ d ∧ d ≤ 86399999 := by unfold msO inB at h; simpa using h
theorem chg_same (w : List (List UInt8)) : chgOkP w = chgOkR w ∧ (chgOkR w = true → chgVP w = chgVR w) := by
  have o := off_same (w.getD 3 [])
  have fwd : chgOkR w = true → chgOkP w = true ∧ chgVP w = chgVR w := by
    intro h
    unfold chgOkR at h
    simp only [Bool.and_eq_true] at h
    obtain ⟨⟨⟨⟨h1, h2⟩, h3⟩, h4⟩, h5⟩ := h
    obtain ⟨n1, e1⟩ := num_plain h1
    obtain ⟨n2, e2⟩ := num_plain h2
    refine ⟨?_, ?_⟩
    · unfold chgOkP; rw [n1, n2, o.1, h3, e1, e2, h4, h5]; rfl
    · unfold chgVP chgVR; rw [e1, e2, o.2 h3]
  refine ⟨?_, fun h => (fwd h).2⟩
  rw [Bool.eq_iff_iff]
  refine ⟨fun h => ?_, fun h => (fwd h).1⟩
  unfold chgOkP at h
  simp only [Bool.and_eq_true] at h
  obtain ⟨⟨⟨⟨h1, h2⟩, h3⟩, h4⟩, h5⟩ := h
  have d := dayO_bound h4
  have m := msO_bound h5
  obtain ⟨n1, e1⟩ := plain_num h1 (by omega) (by omega)
  obtain ⟨n2, e2⟩ := plain_num h2 (by omega) (by omega)
  unfold chgOkR; rw [n1, n2, ← o.1, h3, e1, e2, h4, h5]; rfl
/-- A line. -/
def rowO (first : Bool) (st : ZSt) (t : List UInt8) : Option ZSt :=
  let w := spl 32 t
  if first = true then (if w.length = 3 ∧ w.getD 0 [] = zoneW ∧ offOkR (w.getD 2 []) = true then some (bS (w.getD 1 []), offVR (w.getD 2 []), st.2.2) else none)
  else if w.length = 5 ∧ w.getD 0 [] = atW ∧ chgOkR w = true then some (st.1, st.2.1, st.2.2 ++ [chgVR w]) else none
/-- What is left of the lines. -/
def runO : Nat → ZSt → Bool → List (List UInt8) → ZSt × Int × Int
  | k, st, wh, [] => if wh = false ∨ k = 0 then (z0S, (k : Int), 4) else if zoneErr st.1 st.2.1 st.2.2 = 0 then (st, 0, 0) else (z0S, 0, zoneErr st.1 st.2.1 st.2.2)
  | k, st, wh, t :: r => match rowO (k == 0) st t with
    | none => (z0S, (k : Int), 4)
    | some st' => runO (k + 1) st' wh r
theorem runO_nil (k : Nat) (st : ZSt) (wh : Bool) : runO k st wh [] = if wh = false ∨ k = 0 then (z0S, (k : Int), 4) else if zoneErr st.1 st.2.1 st.2.2 = 0 then (st, 0, 0) else (z0S, 0, zoneErr st.1 st.2.1 st.2.2) := by rw [runO.eq_def]
theorem runO_cons (k : Nat) (st : ZSt) (wh : Bool) (t : List UInt8) (r : List (List UInt8)) : runO k st wh (t :: r) = match rowO (k == 0) st t with
    | none => (z0S, (k : Int), 4)
    | some st' => runO (k + 1) st' wh r := by rw [runO.eq_def]
def whO (R : List UInt8) : Bool := (spl 10 R).getLastD [] == []
def lnO (R : List UInt8) : List (List UInt8) := if whO R = true then (spl 10 R).dropLast else spl 10 R
def readO (S : List UInt8) : ZSt × Int × Int := if 20000 < S.length then (z0S, 0, 2) else runO 0 z0S (whO S) (lnO S)
theorem whO_nil : whO [] = true := rfl
theorem lnO_nil : lnO [] = [] := rfl
/-- The invariant of the program's loop, with what is left of the text and the flag of the last cut. -/
def leftO (k : Nat) (st : ZSt) (e : Bool) (R : List UInt8) : ZSt × Int × Int := if R = [] then runO k st e [] else runO k st (whO R) (lnO R)
theorem cutL_ne : ∀ (l : List UInt8) (c : UInt8), ∀ x ∈ cutL l c, x ≠ c
  | [], c, x, hx => by simp [cutL] at hx
  | b :: r, c, x, hx => by
    by_cases hb : (b != c) = true
    · have e : cutL (b :: r) c = b :: cutL r c := by unfold cutL; rw [List.takeWhile_cons_of_pos (p := fun x => x != c) hb]
      rw [e] at hx
      rcases List.mem_cons.1 hx with rfl | hx
      · simpa using hb
      · exact cutL_ne r c x hx
    · have e : cutL (b :: r) c = [] := by unfold cutL; rw [List.takeWhile_cons_of_neg (by simpa using hb)]
      rw [e] at hx; cases hx
theorem spl_cut (l : List UInt8) (c : UInt8) (h : cutB l c = true) : spl c l = cutL l c :: spl c (cutR l c) := by
  have e := (cut_some h).1
  conv => lhs; rw [e]
  exact spl_app c _ _ (cutL_ne l c)
theorem spl_none (l : List UInt8) (c : UInt8) (h : cutB l c = false) : spl c l = [l] := by
  refine spl_clean c l fun x hx => ?_
  unfold cutB at h
  rw [List.any_eq_false] at h
  simpa using h x hx
theorem left_start (S : List UInt8) (h : S.length ≤ 20000) : readO S = leftO 0 z0S false S := by
  unfold readO leftO
  rw [if_neg (by omega)]
  split
  · next h => subst h; rw [whO_nil, lnO_nil, runO_nil, runO_nil, if_pos (.inr rfl), if_pos (.inr rfl)]
  · rfl
theorem left_step (k : Nat) (st : ZSt) (e : Bool) (R : List UInt8) (hR : R ≠ []) : leftO k st e R = match rowO (k == 0) st (cutL R 10) with
    | none => (z0S, (k : Int), 4)
    | some st' => leftO (k + 1) st' (cutB R 10) (cutR R 10) := by
  unfold leftO
  rw [if_neg hR]
  by_cases hb : cutB R 10 = true
  · have hs := spl_cut R 10 hb
    obtain ⟨p, q, hpq⟩ := spl_cons 10 (cutR R 10)
    have hw : whO R = whO (cutR R 10) := by
      unfold whO; rw [hs, hpq]; rfl
    have hl : lnO R = cutL R 10 :: lnO (cutR R 10) := by
      unfold lnO; rw [hw, hs]
      split
      · rw [hpq]; rfl
      · rfl
    rw [hw, hl, runO_cons, hb]
    cases rowO (k == 0) st (cutL R 10) with
    | none => rfl
    | some st' =>
      simp only []
      split
      · next h => rw [h, whO_nil, lnO_nil]
      · rfl
  · have hb' : cutB R 10 = false := by simpa using hb
    obtain ⟨e1, e2⟩ := cutL_none hb'
    have hs := spl_none R 10 hb'
    have hw : whO R = false := by
      unfold whO; rw [hs]
      show (R == []) = false
      simpa using hR
    have hl : lnO R = [R] := by unfold lnO; rw [hw, hs]; simp
    rw [hw, hl, runO_cons, e1, e2, hb']
    simp
end Go.Proofs.YthpiiocncdpimabDoor
