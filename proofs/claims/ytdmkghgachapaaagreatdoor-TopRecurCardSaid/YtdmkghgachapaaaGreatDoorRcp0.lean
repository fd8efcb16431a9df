/- Texts of recurrences, plain: how they are written, how they are read. -/
import Derived.Test.YtdmkghgachapaaaGreatDoorMg2
import Derived.Test.YtdmkghgachapaaaGreatDoorMgR
import Derived.Test.YtdmkghgachapaaaGreatDoorTxt1
namespace Go.Proofs.YtdmkghgachapaaaGreatDoor
set_option linter.unusedVariables false
set_option linter.unusedSimpArgs false
set_option maxRecDepth 100000
open Go.RowKit

abbrev wEvery : List UInt8 := [101, 118, 101, 114, 121]
abbrev wFrom : List UInt8 := [102, 114, 111, 109]
abbrev wUntil : List UInt8 := [117, 110, 116, 105, 108]
abbrev wTimes : List UInt8 := [116, 105, 109, 101, 115]
abbrev wWeek : List UInt8 := [119, 101, 101, 107, 100, 97, 121, 115]
abbrev wMonth : List UInt8 := [109, 111, 110, 116, 104, 100, 97, 121, 115]
abbrev wMonths : List UInt8 := [109, 111, 110, 116, 104, 115]
abbrev unitsL : List (List UInt8) := [[], [100, 97, 121], [119, 101, 101, 107], [109, 111, 110, 116, 104], [121, 101, 97, 114]]
def unitS (u : Int) : List UInt8 := unitsL.getD u.toNat []
/-- A list of numbers, joined by commas. -/
def numsS (l : List Int) : List UInt8 := Lib.join (l.map Lib.itoa) [44]
def partP (w : List UInt8) (l : List Int) : List (List UInt8) := if l = [] then [] else [w, numsS l]
def timesP (cn : Int) : List (List UInt8) := if cn = 0 then [] else [wTimes, Lib.itoa cn]
def recP (u ev f cn un : Int) (ws ms ns : List Int) : List (List UInt8) :=
  [Lib.itoa ev, unitS u, wFrom, Lib.itoa f, wUntil, Lib.itoa un] ++ (timesP cn ++ (partP wWeek ws ++ (partP wMonth ms ++ partP wMonths ns)))
/-- The text of a recurrence. -/
def recS (u ev f cn un : Int) (ws ms ns : List Int) : List UInt8 := wEvery ++ glue 32 (recP u ev f cn un ws ms ns)
theorem unitS_clean : ∀ u : Int, ∀ x ∈ unitS u, x ≠ 32 := by
  intro u
  unfold unitS
  rw [List.getD_eq_getElem?_getD]
  match u.toNat with
  | 0 => decide
  | 1 => decide
  | 2 => decide
  | 3 => decide
  | 4 => decide
  | k + 5 => simp
theorem join_mem (c : UInt8) : ∀ (xs : List (List UInt8)), ∀ x ∈ Lib.join xs [c], x = c ∨ ∃ l ∈ xs, x ∈ l
  | [], x, h => by simp [Lib.join, List.intercalate] at h
  | a :: ps, x, h => by
    rw [join_glue] at h
    have key : ∀ (ps : List (List UInt8)), ∀ x ∈ glue c ps, x = c ∨ ∃ l ∈ ps, x ∈ l := by
      intro ps
      induction ps with
      | nil => intro x h; cases h
      | cons p ps ih =>
        intro x h
        rw [glue] at h
        rcases List.mem_cons.1 h with rfl | h
        · exact .inl rfl
        · rcases List.mem_append.1 h with h | h
          · exact .inr ⟨p, by simp, h⟩
          · rcases ih x h with h | ⟨l, h1, h2⟩
            · exact .inl h
            · exact .inr ⟨l, by simp [h1], h2⟩
    rcases List.mem_append.1 h with h | h
    · exact .inr ⟨a, by simp, h⟩
    · rcases key ps x h with h | ⟨l, h1, h2⟩
      · exact .inl h
      · exact .inr ⟨l, by simp [h1], h2⟩
theorem numsS_clean (l : List Int) : ∀ x ∈ numsS l, x ≠ 32 := by
  intro x hx
  rcases join_mem 44 _ x hx with rfl | ⟨t, ht, hxt⟩
  · decide
  · obtain ⟨n, _, rfl⟩ := List.mem_map.1 ht
    exact itoa_clean n 32 (by decide) (by decide) x hxt
theorem recP_clean (u ev f cn un : Int) (ws ms ns : List Int) : ∀ p ∈ recP u ev f cn un ws ms ns, ∀ x ∈ p, x ≠ 32 := by
  have hi : ∀ n : Int, ∀ x ∈ Lib.itoa n, x ≠ 32 := fun n => itoa_clean n 32 (by decide) (by decide)
  have hl : ∀ (w : List UInt8) (l : List Int), (∀ x ∈ w, x ≠ 32) → ∀ p ∈ partP w l, ∀ x ∈ p, x ≠ 32 := by
    intro w l hw p hp
    unfold partP at hp
    split at hp
    · cases hp
    · simp at hp
      rcases hp with rfl | rfl
      · exact hw
      · exact numsS_clean l
  have ht : ∀ p ∈ timesP cn, ∀ x ∈ p, x ≠ 32 := by
    intro p hp
    unfold timesP at hp
    split at hp
    · cases hp
    · simp at hp
      rcases hp with rfl | rfl
      · decide
      · exact hi cn
  intro p hp
  unfold recP at hp
  rcases List.mem_append.1 hp with hp | hp
  · simp only [List.mem_cons, List.not_mem_nil, or_false] at hp
    rcases hp with rfl | rfl | rfl | rfl | rfl | rfl
    · exact hi ev
    · exact unitS_clean u
    · decide
    · exact hi f
    · decide
    · exact hi un
  · rcases List.mem_append.1 hp with hp | hp
    · exact ht p hp
    rcases List.mem_append.1 hp with hp | hp
    · exact hl wWeek ws (by decide) p hp
    rcases List.mem_append.1 hp with hp | hp
    · exact hl wMonth ms (by decide) p hp
    · exact hl wMonths ns (by decide) p hp
theorem recS_pieces (u ev f cn un : Int) (ws ms ns : List Int) : spl 32 (recS u ev f cn un ws ms ns) = wEvery :: recP u ev f cn un ws ms ns :=
  spl_glue 32 wEvery _ (by decide) (recP_clean u ev f cn un ws ms ns)
/-- The numbers of a list's text. -/
def numsOf (t : List UInt8) : List Int := (spl 44 t).map atoiV
theorem numsOf_numsS (l : List Int) (hne : l ≠ []) (hb : ∀ x ∈ l, -9223372036854775808 ≤ x ∧ x ≤ 9223372036854775807) : numsOf (numsS l) = l := by
  cases l with
  | nil => exact absurd rfl hne
  | cons a r =>
    unfold numsOf numsS
    rw [List.map_cons, join_glue, spl_glue 44 _ _ (itoa_clean a 44 (by decide) (by decide)) (by
      intro p hp
      obtain ⟨n, _, rfl⟩ := List.mem_map.1 hp
      exact itoa_clean n 44 (by decide) (by decide))]
    rw [List.map_cons, List.map_map, (atoiV_itoa (hb a (by simp)).1 (hb a (by simp)).2).1]
    congr 1
    have : ∀ x ∈ r, (atoiV ∘ Lib.itoa) x = x := fun x hx => (atoiV_itoa (hb x (by simp [hx])).1 (hb x (by simp [hx])).2).1
    rw [List.map_congr_left this, List.map_id']
/-- What stands behind the words of a recurrence: count and lists. -/
abbrev Tl := Int × List Int × List Int × List Int
def stepR (st : Tl) (k v : List UInt8) : Tl :=
  if k = wTimes then (atoiV v, st.2.1, st.2.2.1, st.2.2.2) else
  if k = wWeek then (st.1, numsOf v, st.2.2.1, st.2.2.2) else
  if k = wMonth then (st.1, st.2.1, numsOf v, st.2.2.2) else
  if k = wMonths then (st.1, st.2.1, st.2.2.1, numsOf v) else st
def pairsR : Tl → List (List UInt8) → Tl
  | st, k :: v :: r => pairsR (stepR st k v) r
  | st, _ => st
def idxU (t : List UInt8) : Int := if t = [] then 0 else if t = [100, 97, 121] then 1 else if t = [119, 101, 101, 107] then 2 else if t = [109, 111, 110, 116, 104] then 3 else if t = [121, 101, 97, 114] then 4 else -1
/-- The fields that are read off a text, and the fields of what is handed on; none: refused. -/
def rawR (S : List UInt8) : Int × Int × Int × Int × Tl :=
  let w := spl 32 S
  (idxU (w.getD 2 []), atoiV (w.getD 1 []), atoiV (w.getD 4 []), atoiV (w.getD 6 []), pairsR (0, [], [], []) (w.drop 7))
theorem idxU_unit {u : Int} (h1 : 1 ≤ u) (h2 : u ≤ 4) : idxU (unitS u) = u := by
  have : u = 1 ∨ u = 2 ∨ u = 3 ∨ u = 4 := by omega
  rcases this with rfl | rfl | rfl | rfl <;> decide
theorem pairs_list {st : Tl} (w : List UInt8) (l : List Int) (r : List (List UInt8)) : pairsR st (partP w l ++ r) = if l = [] then pairsR st r else pairsR (stepR st w (numsS l)) r := by
  unfold partP
  by_cases h : l = []
  · rw [if_pos h, if_pos h]; rfl
  · rw [if_neg h, if_neg h]; rfl
/-- What is written of fit fields is read back. -/
theorem raw_recS {u ev f cn un : Int} {ws ms ns : List Int} (u1 : 1 ≤ u) (u2 : u ≤ 4) (he : I64 ev) (hf : I64 f) (hc : I64 cn) (hu : I64 un) (hw : ∀ x ∈ ws, I64 x) (hm : ∀ x ∈ ms, I64 x) (hn : ∀ x ∈ ns, I64 x) :
    rawR (recS u ev f cn un ws ms ns) = (u, ev, f, un, cn, ws, ms, ns) := by
  unfold rawR
  rw [recS_pieces]
  have e1 : (wEvery :: recP u ev f cn un ws ms ns).getD 2 [] = unitS u := rfl
  have e2 : (wEvery :: recP u ev f cn un ws ms ns).getD 1 [] = Lib.itoa ev := rfl
  have e3 : (wEvery :: recP u ev f cn un ws ms ns).getD 4 [] = Lib.itoa f := rfl
  have e4 : (wEvery :: recP u ev f cn un ws ms ns).getD 6 [] = Lib.itoa un := rfl
  have e5 : (wEvery :: recP u ev f cn un ws ms ns).drop 7 = timesP cn ++ (partP wWeek ws ++ (partP wMonth ms ++ partP wMonths ns)) := rfl
  simp only [e1, e2, e3, e4, e5]
  rw [idxU_unit u1 u2, (atoiV_itoa he.1 he.2).1, (atoiV_itoa hf.1 hf.2).1, (atoiV_itoa hu.1 hu.2).1]
  have key : pairsR (0, [], [], []) (timesP cn ++ (partP wWeek ws ++ (partP wMonth ms ++ partP wMonths ns))) = (cn, ws, ms, ns) := by
    have t1 : ∀ r, pairsR (0, [], [], []) (timesP cn ++ r) = pairsR (cn, [], [], []) r := by
      intro r
      unfold timesP
      by_cases h : cn = 0
      · rw [if_pos h, h]; rfl
      · rw [if_neg h]
        show pairsR (stepR (0, [], [], []) wTimes (Lib.itoa cn)) r = _
        rw [stepR, if_pos rfl, (atoiV_itoa hc.1 hc.2).1]
    have t2 : ∀ r, pairsR (cn, [], [], []) (partP wWeek ws ++ r) = pairsR (cn, ws, [], []) r := by
      intro r
      rw [pairs_list]
      by_cases h : ws = []
      · rw [if_pos h, h]
      · rw [if_neg h, stepR, if_neg (by decide), if_pos rfl, numsOf_numsS ws h hw]
    have t3 : ∀ r, pairsR (cn, ws, [], []) (partP wMonth ms ++ r) = pairsR (cn, ws, ms, []) r := by
      intro r
      rw [pairs_list]
      by_cases h : ms = []
      · rw [if_pos h, h]
      · rw [if_neg h, stepR, if_neg (by decide), if_neg (by decide), if_pos rfl, numsOf_numsS ms h hm]
    have t4 : pairsR (cn, ws, ms, []) (partP wMonths ns ++ []) = (cn, ws, ms, ns) := by
      rw [pairs_list]
      by_cases h : ns = []
      · rw [if_pos h, h]; rfl
      · rw [if_neg h, stepR, if_neg (by decide), if_neg (by decide), if_neg (by decide), if_pos rfl, numsOf_numsS ns h hn]; rfl
    rw [t1, t2, t3, ← List.append_nil (partP wMonths ns), t4]
  rw [key]
end Go.Proofs.YtdmkghgachapaaaGreatDoor
