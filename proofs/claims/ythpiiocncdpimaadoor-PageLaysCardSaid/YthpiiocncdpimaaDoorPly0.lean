/- The pages of a table, plain: the program's way and the reference's. -/
import Derived.Test.YthpiiocncdpimaaDoorBase
import Derived.Lib.RuneCount
import Derived.Lib.TrimByte
import Derived.Lib.ItoaNum
namespace Go.Proofs.YthpiiocncdpimaaDoor
set_option linter.unusedVariables false
set_option linter.unusedSimpArgs false
set_option maxRecDepth 100000
open Go

def rcN (s : ByteArray) : Nat := Lib.runeCount s
def cellO (r : List ByteArray) (j : Nat) : ByteArray := r.getD j ByteArray.empty
/-- The greatest width of a column in some rows. -/
def maxW (rows : List (List ByteArray)) (j : Nat) : Nat := rows.foldl (fun a r => max a (rcN (cellO r j))) 0
def wdsO (n : Nat) (rows : List (List ByteArray)) : List Nat := (List.range n).map (maxW rows)
theorem maxW_snoc (rows : List (List ByteArray)) (r : List ByteArray) (j : Nat) : maxW (rows ++ [r]) j = max (maxW rows j) (rcN (cellO r j)) := by unfold maxW; rw [List.foldl_append]; rfl
theorem foldl_max_ge (f : List ByteArray → Nat) : ∀ (l : List (List ByteArray)) (a : Nat), a ≤ l.foldl (fun a r => max a (f r)) a
  | [], a => Nat.le_refl _
  | x :: l, a => Nat.le_trans (Nat.le_max_left a (f x)) (foldl_max_ge f l _)
theorem foldl_max_mem (f : List ByteArray → Nat) : ∀ (l : List (List ByteArray)) (a : Nat), ∀ r ∈ l, f r ≤ l.foldl (fun a r => max a (f r)) a
  | x :: l, a, r, h => by
    rcases List.mem_cons.1 h with rfl | h
    · exact Nat.le_trans (Nat.le_max_right a (f r)) (foldl_max_ge f l _)
    · exact foldl_max_mem f l _ r h
theorem maxW_mem {rows : List (List ByteArray)} {r : List ByteArray} (h : r ∈ rows) (j : Nat) : rcN (cellO r j) ≤ maxW rows j := foldl_max_mem (fun r => rcN (cellO r j)) rows 0 r h
theorem foldl_max_le (f : List ByteArray → Nat) (B : Nat) : ∀ (l : List (List ByteArray)) (a : Nat), a ≤ B → (∀ r ∈ l, f r ≤ B) → l.foldl (fun a r => max a (f r)) a ≤ B
  | [], a, h, _ => h
  | x :: l, a, h, hl => foldl_max_le f B l _ (Nat.max_le.2 ⟨h, hl x (by simp)⟩) fun r hr => hl r (by simp [hr])
theorem maxW_le {rows : List (List ByteArray)} {B j : Nat} (h : ∀ r ∈ rows, rcN (cellO r j) ≤ B) : maxW rows j ≤ B := foldl_max_le _ B rows 0 (Nat.zero_le _) h
theorem wdsO_get (n : Nat) (rows : List (List ByteArray)) (j : Nat) (h : j < n) : (wdsO n rows).getD j 0 = maxW rows j := by
  unfold wdsO; simp [List.getD_eq_getElem?_getD, h]

/-! Groups of columns. -/
def fitB (W : List Nat) (width : Nat) : Bool := decide (W.getD 0 0 ≤ width) && (W.drop 1).all fun x => decide (W.getD 0 0 + 2 + x ≤ width)
/-- The first columns of the groups (behind the first column of all). -/
def stGo (w0 width : Nat) : List Nat → Nat → Nat → List Nat → List Nat
  | [], _, _, acc => acc
  | x :: r, i, used, acc => if width < used + 2 + x then stGo w0 width r (i + 1) (w0 + 2 + x) (acc ++ [i]) else stGo w0 width r (i + 1) (used + 2 + x) acc
def stsO (W : List Nat) (width : Nat) : List Nat := stGo (W.getD 0 0) width (W.drop 1) 1 (W.getD 0 0) [1]
def grps : List Nat → Nat → List (List Nat)
  | [], _ => []
  | [s], e => [0 :: List.range' s (e - s)]
  | s :: t :: r, e => (0 :: List.range' s (t - s)) :: grps (t :: r) e
theorem grps_len : ∀ (l : List Nat) (e : Nat), (grps l e).length = l.length
  | [], _ => rfl
  | [_], _ => rfl
  | s :: t :: r, e => by rw [grps, List.length_cons, grps_len (t :: r) e]; rfl
/-- The columns of group g. -/
theorem grps_get : ∀ (l : List Nat) (e g : Nat), g < l.length → (grps l e)[g]? = some (0 :: List.range' (l.getD g 0) ((if g + 1 < l.length then l.getD (g + 1) 0 else e) - l.getD g 0))
  | [], _, g, h => by simp at h
  | [s], e, g, h => by
    have : g = 0 := by simpa using h
    subst this; rfl
  | s :: t :: r, e, 0, h => by rw [grps]; simp
  | s :: t :: r, e, g + 1, h => by
    have ih := grps_get (t :: r) e g (by simpa using h)
    rw [grps, List.getElem?_cons_succ, ih]
    simp
theorem grps_snoc (l : List Nat) (a i : Nat) (hl : l ≠ []) : grps (l ++ [i]) (i + 1) = grps l i ++ [[0, i]] := by
  induction l with
  | nil => exact absurd rfl hl
  | cons s r ih =>
    cases r with
    | nil => simp [grps]
    | cons t q =>
      have := ih (by simp)
      rw [List.cons_append] at this
      rw [List.cons_append, List.cons_append, grps, this, grps]; rfl
/-- What the last group gets. -/
theorem grps_step : ∀ (l : List Nat) (i : Nat), l ≠ [] → l.getLastD 0 ≤ i → ∃ a b, grps l i = a ++ [b] ∧ grps l (i + 1) = a ++ [b ++ [i]]
  | [], _, h, _ => absurd rfl h
  | [s], i, _, hi => by
    refine ⟨[], 0 :: List.range' s (i - s), rfl, ?_⟩
    have hs : s ≤ i := hi
    rw [grps, List.nil_append, show i + 1 - s = (i - s) + 1 by omega, List.range'_concat]
    simp
    omega
  | s :: t :: r, i, _, hi => by
    obtain ⟨a, b, h1, h2⟩ := grps_step (t :: r) i (by simp) (by simpa using hi)
    exact ⟨(0 :: List.range' s (t - s)) :: a, b, by rw [grps, h1]; rfl, by rw [grps, h2]; rfl⟩

/-! Lines. -/
def spO (n : Nat) : List UInt8 := List.replicate n 32
def padO (W : List Nat) (T : Nat → ByteArray) (j : Nat) : List UInt8 := (T j).data.toList ++ spO (W.getD j 0 - rcN (T j))
/-- A line as the program writes it, from column k of the group on. -/
def lineP (W : List Nat) (T : Nat → ByteArray) : Bool → List Nat → List UInt8
  | _, [] => []
  | first, c :: r => (if first = true then [] else [32, 32]) ++ ((T c).data.toList ++ ((if r = [] then [] else spO (W.getD c 0 - rcN (T c))) ++ lineP W T false r))
def trimO (l : List UInt8) : List UInt8 := Lib.trimRightB l 32
def txtO (W : List Nat) (T : Nat → ByteArray) (cs : List Nat) : List UInt8 := trimO (lineP W T true cs) ++ [10]
/-- A line as the reference writes it. -/
def lineR (W : List Nat) (T : Nat → ByteArray) (from_ n : Nat) : List UInt8 := padO W T 0 ++ (List.range' from_ n).flatMap fun i => [32, 32] ++ padO W T i
theorem trimO_sp (l : List UInt8) : ∀ n, trimO (l ++ spO n) = trimO l
  | 0 => by simp [spO]
  | n + 1 => by
    have ih := trimO_sp l n
    unfold spO at ih ⊢
    rw [List.replicate_succ', ← List.append_assoc]
    rw [← ih]
    unfold trimO Lib.trimRightB
    rw [List.reverse_append]
    rfl
theorem lineP_rest (W : List Nat) (T : Nat → ByteArray) : ∀ (cs : List Nat) (c : Nat), ∃ n, ((c :: cs).flatMap fun i => [32, 32] ++ padO W T i) = lineP W T false (c :: cs) ++ spO n
  | [], c => ⟨W.getD c 0 - rcN (T c), by simp [lineP, padO]⟩
  | d :: r, c => by
    obtain ⟨n, h⟩ := lineP_rest W T r d
    refine ⟨n, ?_⟩
    have e : lineP W T false (c :: d :: r) = [32, 32] ++ ((T c).data.toList ++ (spO (W.getD c 0 - rcN (T c)) ++ lineP W T false (d :: r))) := by
      rw [lineP]; rfl
    rw [List.flatMap_cons, h, e]
    unfold padO
    simp only [List.append_assoc]
theorem line_same (W : List Nat) (T : Nat → ByteArray) (f n : Nat) : trimO (lineR W T f n) = trimO (lineP W T true (0 :: List.range' f n)) := by
  unfold lineR
  cases n with
  | zero =>
    rw [List.range'_zero]
    simp only [List.flatMap_nil, List.append_nil]
    unfold padO
    rw [trimO_sp]
    simp [lineP]
  | succ n =>
    rw [List.range'_succ]
    obtain ⟨m, h⟩ := lineP_rest W T (List.range' (f + 1) n) f
    rw [h, ← List.append_assoc, trimO_sp]
    conv => rhs; rw [lineP]
    simp [padO]

/-! Pages. -/
def pgF (hl : List UInt8) (ln : List ByteArray → List UInt8) (h : Nat) : Nat → List (List ByteArray) → List (List UInt8)
  | 0, _ => []
  | f + 1, rs => (hl ++ (rs.take h).flatMap ln) :: (if rs.drop h = [] then [] else pgF hl ln h f (rs.drop h))
def headO (W : List Nat) (hd : List ByteArray) (cs : List Nat) : List UInt8 := txtO W (cellO hd) cs ++ txtO W (fun i => ⟨(List.replicate (W.getD i 0) 45).toArray⟩) cs
def pagesG (W : List Nat) (hd : List ByteArray) (rs : List (List ByteArray)) (h : Nat) (cs : List Nat) : List (List UInt8) := pgF (headO W hd cs) (fun r => txtO W (cellO r) cs) h (rs.length + 1) rs
def bodyO (hd : List ByteArray) (rs : List (List ByteArray)) (width h : Nat) : List (List UInt8) :=
  (grps (stsO (wdsO hd.length (hd :: rs)) width) hd.length).flatMap (pagesG (wdsO hd.length (hd :: rs)) hd rs h)
def pageS : List UInt8 := [112, 97, 103, 101, 32]
def ofS : List UInt8 := [32, 111, 102, 32]
def footO (i n : Nat) : List UInt8 := pageS ++ Lib.itoa (i + 1 : Nat) ++ ofS ++ Lib.itoa n ++ [10]
/-- The pages with their last lines, up to k of them. -/
def footsO (l : List (List UInt8)) (k : Nat) : List (List UInt8) := l.mapIdx fun i p => if i < k then p ++ footO i l.length else p
def layO (hd : List ByteArray) (rs : List (List ByteArray)) (width h : Nat) : List (List UInt8) := footsO (bodyO hd rs width h) (bodyO hd rs width h).length
theorem footsO_zero (l : List (List UInt8)) : footsO l 0 = l := by
  unfold footsO
  refine List.ext_getElem? fun i => ?_
  simp
theorem footsO_len (l : List (List UInt8)) (k : Nat) : (footsO l k).length = l.length := by unfold footsO; simp
theorem footsO_get (l : List (List UInt8)) (k i : Nat) : (footsO l k)[i]? = (l[i]?).map fun p => if i < k then p ++ footO i l.length else p := by
  unfold footsO; rw [List.getElem?_mapIdx]
theorem footsO_step (l : List (List UInt8)) (k : Nat) (p : List UInt8) (h : l[k]? = some p) : footsO l (k + 1) = (footsO l k).set k (p ++ footO k l.length) := by
  have hk : k < l.length := (List.getElem?_eq_some_iff.1 h).1
  refine List.ext_getElem? fun i => ?_
  rw [footsO_get, List.getElem?_set]
  by_cases hi : k = i
  · subst hi
    rw [if_pos rfl, if_pos (by rw [footsO_len]; exact hk), h]
    simp
  · rw [if_neg hi, footsO_get]
    congr 1
    funext q
    by_cases h1 : i < k
    · rw [if_pos h1, if_pos (by omega)]
    · rw [if_neg h1, if_neg (by omega)]
end Go.Proofs.YthpiiocncdpimaaDoor
