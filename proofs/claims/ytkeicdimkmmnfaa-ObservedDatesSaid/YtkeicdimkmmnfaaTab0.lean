/- Tables of months, plain: the rows of a table, the day of a date, the date of a day. -/
import Derived.Test.YtkeicdimkmmnfaaObserved
namespace Go.Proofs.Ytkeicdimkmmnfaa
set_option linter.unusedVariables false
set_option maxRecDepth 100000

/-- A table without error. -/
structure TableOk (f : Int) (ms ss : List Int) : Prop where
  l1 : 1 ≤ ms.length
  l2 : ms.length ≤ 40
  f1 : -10000 ≤ f
  f2 : f + ms.length ≤ 10001
  each : ∀ m ∈ ms, m = 12 ∨ m = 13
  len : (ss.length : Int) = ms.sum + 1
  days : ∀ (k : Nat) (x : Int), ss[k]? = some x → -4000000 ≤ x ∧ x ≤ 4000000
  up : ∀ (k : Nat) (x y : Int), ss[k]? = some x → ss[k + 1]? = some y → x < y ∧ y ≤ x + 40
theorem inB_of {l h x : Int} (q : inB l h x = true) : l ≤ x ∧ x ≤ h := by
  rcases inB_cases l h x with ⟨_, h⟩ | ⟨h, _⟩
  · exact h
  · rw [h] at q; cases q
theorem startsErr_zero : ∀ (l : List Int) (p : Option Int), startsErr p l = 0 → (∀ (k : Nat) (x : Int), l[k]? = some x → -4000000 ≤ x ∧ x ≤ 4000000) ∧ (∀ q d, p = some q → l[0]? = some d → q < d ∧ d ≤ q + 40) ∧ (∀ (k : Nat) (x y : Int), l[k]? = some x → l[k + 1]? = some y → x < y ∧ y ≤ x + 40)
  | [], p, _ => ⟨fun k x h => by simp at h, fun q d _ h => by simp at h, fun k x y h => by simp at h⟩
  | a :: l, p, h => by
    rw [startsErr_cons] at h
    by_cases h1 : inB (-4000000) 4000000 a = false
    · rw [if_pos h1] at h; omega
    rw [if_neg h1] at h
    have key : startsErr (some a) l = 0 ∧ (∀ q, p = some q → q < a ∧ a ≤ q + 40) := by
      cases p with
      | none => exact ⟨by simpa using h, fun q hq => by cases hq⟩
      | some q =>
        by_cases h2 : q < a ∧ a ≤ q + 40
        · exact ⟨by simpa [h2] using h, fun q' hq => by injection hq with hq; subst hq; exact h2⟩
        · simp only [h2, decide_false, Bool.not_false, if_true] at h; omega
    obtain ⟨i1, i2, i3⟩ := startsErr_zero l (some a) key.1
    refine ⟨fun k x hk => ?_, fun q d hp hd => ?_, fun k x y hx hy => ?_⟩
    · cases k with
      | zero => simp at hk; subst hk; exact inB_of (by simpa using h1)
      | succ k => exact i1 k x (by simpa using hk)
    · simp at hd; subst hd; exact key.2 q hp
    · cases k with
      | zero => simp at hx; subst hx; exact i2 a y rfl (by simpa using hy)
      | succ k => exact i3 k x y (by simpa using hx) (by simpa using hy)
theorem tableOk_of {s : ByteArray} {f : Int} {ms ss : List Int} (h : tableErr s f ms ss = 0) : TableOk f ms ss := by
  unfold tableErr at h
  by_cases h1 : isName s = false
  · rw [if_pos h1] at h; omega
  rw [if_neg h1] at h
  by_cases h2 : ¬ (1 ≤ ms.length ∧ ms.length ≤ 40)
  · rw [if_pos h2] at h; omega
  rw [if_neg h2] at h
  by_cases h3 : ¬ (-10000 ≤ f ∧ f + ms.length ≤ 10001)
  · rw [if_pos h3] at h; omega
  rw [if_neg h3] at h
  by_cases h4 : ms.all mOk = false
  · rw [if_pos h4] at h; omega
  rw [if_neg h4] at h
  by_cases h5 : (ss.length : Int) ≠ ms.sum + 1
  · rw [if_pos h5] at h; omega
  rw [if_neg h5] at h
  obtain ⟨i1, _, i3⟩ := startsErr_zero ss none h
  refine ⟨by omega, by omega, by omega, by omega, fun m hm => ?_, by omega, i1, i3⟩
  have h4' : ms.all mOk = true := by simpa using h4
  have := List.all_eq_true.1 h4' m hm
  simpa [mOk] using this

/-- The months of a year from a month on. -/
def monF (y : Int) : Int → Nat → List (Int × Int)
  | _, 0 => []
  | m, c + 1 => (y, m) :: monF y (m + 1) c
/-- Years and months of a table. -/
def yrs : Int → List Int → List (Int × Int)
  | _, [] => []
  | f, m :: ms => monF f 1 m.toNat ++ yrs (f + 1) ms
/-- A row: year, month, first day, next first day. -/
structure Row4 where
  y : Int
  m : Int
  a : Int
  b : Int
def rowsAt (ss : List Int) : Nat → List (Int × Int) → List Row4
  | _, [] => []
  | k, p :: l => ⟨p.1, p.2, ss.getD k 0, ss.getD (k + 1) 0⟩ :: rowsAt ss (k + 1) l
def toGo (Y M D : Int) : Int → List Row4 → Int × Int
  | e, [] => (0, e)
  | e, r :: l => if r.y ≠ Y then toGo Y M D e l else if r.m = M ∧ 1 ≤ D ∧ r.a + D - 1 < r.b ∧ D < 100 then (r.a + D - 1, 0) else toGo Y M D 1 l
/-- A date as the walks say it. -/
structure Dat where
  y : Int
  m : Int
  d : Int
  e : Int
def fromGo (x : Int) : List Row4 → Dat
  | [] => ⟨0, 0, 0, 3⟩
  | r :: l => if r.a ≤ x ∧ x < r.b then ⟨r.y, r.m, x - r.a + 1, 0⟩ else fromGo x l
theorem monF_length (y : Int) : ∀ (c : Nat) (m : Int), (monF y m c).length = c
  | 0, _ => rfl
  | c + 1, m => by simp [monF, monF_length y c]
theorem yrs_length : ∀ (ms : List Int) (f : Int), (∀ m ∈ ms, m = 12 ∨ m = 13) → ((yrs f ms).length : Int) = ms.sum
  | [], f, _ => rfl
  | m :: ms, f, h => by
    have ih := yrs_length ms (f + 1) (fun x hx => h x (List.mem_cons_of_mem _ hx))
    have := h m List.mem_cons_self
    simp only [yrs, List.length_append, monF_length, List.sum_cons]
    omega
theorem rowsAt_append (ss : List Int) : ∀ (l l' : List (Int × Int)) (k : Nat), rowsAt ss k (l ++ l') = rowsAt ss k l ++ rowsAt ss (k + l.length) l'
  | [], l', k => by simp [rowsAt]
  | p :: l, l', k => by
    simp only [List.cons_append, rowsAt, rowsAt_append ss l l' (k + 1), List.length_cons]
    rw [show k + 1 + l.length = k + (l.length + 1) by omega]
theorem rowsAt_length (ss : List Int) : ∀ (l : List (Int × Int)) (k : Nat), (rowsAt ss k l).length = l.length
  | [], _ => rfl
  | p :: l, k => by simp [rowsAt, rowsAt_length ss l]
theorem monF_year (ss : List Int) (y : Int) : ∀ (c : Nat) (m : Int) (k : Nat), ∀ r ∈ rowsAt ss k (monF y m c), r.y = y
  | 0, m, k, r, hr => by simp [monF, rowsAt] at hr
  | c + 1, m, k, r, hr => by
    simp only [monF, rowsAt, List.mem_cons] at hr
    rcases hr with rfl | hr
    · rfl
    · exact monF_year ss y c (m + 1) (k + 1) r hr
theorem yrs_year (ss : List Int) : ∀ (ms : List Int) (f : Int) (k : Nat), ∀ r ∈ rowsAt ss k (yrs f ms), f ≤ r.y
  | [], f, k, r, hr => by simp [yrs, rowsAt] at hr
  | m :: ms, f, k, r, hr => by
    simp only [yrs, rowsAt_append, List.mem_append] at hr
    rcases hr with hr | hr
    · have := monF_year ss f _ 1 k r hr; omega
    · have := yrs_year ss ms (f + 1) _ r hr; omega
theorem toGo_skip (Y M D : Int) : ∀ (R R' : List Row4) (e : Int), (∀ r ∈ R, r.y ≠ Y) → toGo Y M D e (R ++ R') = toGo Y M D e R'
  | [], R', e, _ => rfl
  | r :: R, R', e, h => by
    rw [List.cons_append, toGo, if_pos (h r List.mem_cons_self)]
    exact toGo_skip Y M D R R' e (fun x hx => h x (List.mem_cons_of_mem _ hx))
theorem toGo_none (Y M D : Int) (R : List Row4) (e : Int) (h : ∀ r ∈ R, r.y ≠ Y) : toGo Y M D e R = (0, e) := by
  have := toGo_skip Y M D R [] e h
  rw [List.append_nil] at this
  rw [this, toGo]
/-- The day of a date whose month has the number j. -/
def dayOut (ss : List Int) (j : Nat) (D : Int) : Int × Int := if 1 ≤ D ∧ D ≤ ss.getD (j + 1) 0 - ss.getD j 0 then (ss.getD j 0 + D - 1, 0) else (0, 1)
theorem toGo_mon (ss : List Int) (Y M D : Int) (R' : List Row4) (hR : ∀ r ∈ R', r.y ≠ Y) : ∀ (c : Nat) (m : Int) (k : Nat) (e : Int), (∀ j, k ≤ j → j < k + c → ss.getD (j + 1) 0 ≤ ss.getD j 0 + 40) →
    toGo Y M D e (rowsAt ss k (monF Y m c) ++ R') = if m ≤ M ∧ M < m + c then dayOut ss (k + (M - m).toNat) D else (0, if c = 0 then e else 1)
  | 0, m, k, e, _ => by
    rw [if_neg (by omega)]
    simp only [monF, rowsAt, List.nil_append, if_true]
    exact toGo_none Y M D R' e hR
  | c + 1, m, k, e, hup => by
    have ih := toGo_mon ss Y M D R' hR c (m + 1) (k + 1) 1 (fun j h1 h2 => hup j (by omega) (by omega))
    have hk := hup k (by omega) (by omega)
    simp only [monF, rowsAt, List.cons_append, toGo]
    rw [if_neg (by simp)]
    by_cases hm : m = M
    · subst hm
      rw [if_neg (show ¬ (m + 1 ≤ m ∧ m < m + 1 + (c : Int)) by omega)] at ih
      rw [if_pos (show m ≤ m ∧ m < m + ((c + 1 : Nat) : Int) by omega), show k + (m - m).toNat = k by omega, ih]
      unfold dayOut
      by_cases hg : 1 ≤ D ∧ D ≤ ss.getD (k + 1) 0 - ss.getD k 0
      · rw [if_pos hg, if_pos ⟨rfl, hg.1, by omega, by omega⟩]
      · rw [if_neg hg, if_neg (show ¬ (m = m ∧ 1 ≤ D ∧ ss.getD k 0 + D - 1 < ss.getD (k + 1) 0 ∧ D < 100) by omega)]
        simp
    · rw [if_neg (show ¬ (m = M ∧ 1 ≤ D ∧ ss.getD k 0 + D - 1 < ss.getD (k + 1) 0 ∧ D < 100) by omega), ih]
      by_cases hc : m ≤ M ∧ M < m + ((c + 1 : Nat) : Int)
      · rw [if_pos hc, if_pos (by omega), show k + 1 + (M - (m + 1)).toNat = k + (M - m).toNat by omega]
      · rw [if_neg hc, if_neg (by omega)]
        simp
/-- The day of a date. -/
def toDayOut (f : Int) (ms ss : List Int) (Y M D : Int) : Int × Int :=
  if ¬ (f ≤ Y ∧ Y < f + ms.length) then (0, 3) else if ¬ (1 ≤ M ∧ M ≤ ms.getD (Y - f).toNat 0) then (0, 1) else dayOut ss ((ms.take (Y - f).toNat).sum.toNat + (M - 1).toNat) D
theorem sum_nonneg : ∀ (ms : List Int), (∀ m ∈ ms, m = 12 ∨ m = 13) → 0 ≤ ms.sum
  | [], _ => by simp
  | m :: ms, h => by
    have ih := sum_nonneg ms (fun x hx => h x (List.mem_cons_of_mem _ hx))
    have := h m List.mem_cons_self
    rw [List.sum_cons]; omega
theorem toGo_yrs (ss : List Int) (Y M D : Int) : ∀ (ms : List Int) (f : Int) (k : Nat) (e : Int), (∀ m ∈ ms, m = 12 ∨ m = 13) → (∀ j, k ≤ j → (j : Int) < k + ms.sum → ss.getD (j + 1) 0 ≤ ss.getD j 0 + 40) →
    toGo Y M D e (rowsAt ss k (yrs f ms)) = if ¬ (f ≤ Y ∧ Y < f + ms.length) then (0, e) else if ¬ (1 ≤ M ∧ M ≤ ms.getD (Y - f).toNat 0) then (0, 1) else dayOut ss (k + ((ms.take (Y - f).toNat).sum.toNat + (M - 1).toNat)) D
  | [], f, k, e, _, _ => by
    rw [if_pos (by simp)]; rfl
  | m :: ms, f, k, e, hm, hup => by
    have hm0 := hm m List.mem_cons_self
    have hms : ∀ x ∈ ms, x = 12 ∨ x = 13 := fun x hx => hm x (List.mem_cons_of_mem _ hx)
    have hs := sum_nonneg ms hms
    rw [List.sum_cons] at hup
    have ih := toGo_yrs ss Y M D ms (f + 1) (k + m.toNat) e hms (fun j h1 h2 => hup j (by omega) (by omega))
    simp only [yrs, rowsAt_append, monF_length]
    rcases Int.lt_trichotomy f Y with hY | hY | hY
    · rw [toGo_skip Y M D _ _ e (fun r hr => by have := monF_year ss f _ 1 k r hr; omega), ih]
      obtain ⟨i, hi⟩ : ∃ i : Nat, (Y - f).toNat = i + 1 := ⟨(Y - f).toNat - 1, by omega⟩
      have hi' : (Y - (f + 1)).toNat = i := by omega
      have hts : 0 ≤ (ms.take i).sum := sum_nonneg _ (fun x hx => hms x (List.mem_of_mem_take hx))
      rw [hi, hi']
      simp only [List.getD_cons_succ, List.take_succ_cons, List.sum_cons, List.length_cons]
      rw [show k + m.toNat + ((ms.take i).sum.toNat + (M - 1).toNat) = k + ((m + (ms.take i).sum).toNat + (M - 1).toNat) by omega]
      have hP : (f + 1 ≤ Y ∧ Y < f + 1 + (ms.length : Int)) ↔ (f ≤ Y ∧ Y < f + ((ms.length + 1 : Nat) : Int)) := by omega
      by_cases hc : f ≤ Y ∧ Y < f + ((ms.length + 1 : Nat) : Int)
      · rw [if_neg (fun h => h (hP.2 hc)), if_neg (show ¬ ¬ (f ≤ Y ∧ Y < f + ((ms.length + 1 : Nat) : Int)) from fun h => h hc)]
      · rw [if_pos (fun h => hc (hP.1 h)), if_pos hc]
    · subst hY
      rw [toGo_mon ss f M D _ (fun r hr => by have := yrs_year ss ms (f + 1) _ r hr; omega) m.toNat 1 k e (fun j h1 h2 => hup j h1 (by omega))]
      rw [if_neg (show ¬ ¬ (f ≤ f ∧ f < f + ((m :: ms).length : Int)) by simp only [List.length_cons]; omega), show (f - f).toNat = 0 by omega]
      simp only [List.getD_cons_zero, List.take_zero, List.sum_nil]
      by_cases hc : 1 ≤ M ∧ M < 1 + (m.toNat : Int)
      · rw [if_pos hc, if_neg (by omega), show k + ((0 : Int).toNat + (M - 1).toNat) = k + (M - 1).toNat by simp]
      · rw [if_neg hc, if_pos (show ¬ (1 ≤ M ∧ M ≤ m) by omega), if_neg (show ¬ m.toNat = 0 by omega)]
    · rw [toGo_skip Y M D _ _ e (fun r hr => by have := monF_year ss f _ 1 k r hr; omega), ih, if_pos (show ¬ (f + 1 ≤ Y ∧ Y < f + 1 + (ms.length : Int)) by omega), if_pos (show ¬ (f ≤ Y ∧ Y < f + ((m :: ms).length : Int)) by omega)]
theorem toGo_table {f : Int} {ms ss : List Int} (ok : TableOk f ms ss) (Y M D : Int) : toGo Y M D 3 (rowsAt ss 0 (yrs f ms)) = toDayOut f ms ss Y M D := by
  rw [toGo_yrs ss Y M D ms f 0 3 ok.each (fun j _ h2 => by
    have hl := ok.len
    have h3 : j + 1 < ss.length := by omega
    have := (ok.up j _ _ (List.getElem?_eq_getElem (by omega)) (List.getElem?_eq_getElem h3)).2
    rw [List.getD_eq_getElem?_getD, List.getD_eq_getElem?_getD, List.getElem?_eq_getElem h3, List.getElem?_eq_getElem (show j < ss.length by omega)]
    exact this)]
  unfold toDayOut
  simp only [Nat.zero_add]
/-- What is left of the rows, in the i-th year, from month m on. -/
def restOf (f : Int) (ms : List Int) (i : Nat) (n m : Int) : List (Int × Int) := monF (f + i) m (n + 1 - m).toNat ++ yrs (f + i + 1) (ms.drop (i + 1))
theorem rest_open {f : Int} {ms : List Int} {i : Nat} {n : Int} (h : ms[i]? = some n) (hn : 0 ≤ n) : yrs (f + i) (ms.drop i) = restOf f ms i n 1 := by
  rw [drop_is h, yrs, restOf, show (n + 1 - 1).toNat = n.toNat by omega]
theorem rest_step {f : Int} {ms : List Int} {i : Nat} {n m : Int} (hm : m ≤ n) : restOf f ms i n m = (f + i, m) :: restOf f ms i n (m + 1) := by
  obtain ⟨c, hc⟩ : ∃ c : Nat, (n + 1 - m).toNat = c + 1 := ⟨(n - m).toNat, by omega⟩
  rw [restOf, hc, monF, restOf, show (n + 1 - (m + 1)).toNat = c by omega]
  rfl
theorem rest_close {f : Int} {ms : List Int} {i : Nat} {n m : Int} (hm : n < m) : restOf f ms i n m = yrs (f + (i + 1 : Nat)) (ms.drop (i + 1)) := by
  rw [restOf, show (n + 1 - m).toNat = 0 by omega, monF, List.nil_append, show f + ((i + 1 : Nat) : Int) = f + i + 1 by omega]
end Go.Proofs.Ytkeicdimkmmnfaa
