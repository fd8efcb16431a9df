/- Contracts of rule.Head, rule.Months (with slices.ContainsFunc and its closure), and of the reference's MonthsError. -/
import Derived.Test.YtfbmlbenffkpfaaGreatDoorMonths
import Derived.Test.YtfbmlbenffkpfaaGreatDoorLine
import Derived.Test.YtfbmlbenffkpfaaGreatDoorName
namespace Go.Proofs.YtfbmlbenffkpfaaGreatDoor
set_option linter.unusedVariables false
set_option maxRecDepth 100000
open Go.RowKit

theorem lenB_cases (a b : Int) : (inB 0 400 a = true ∧ 0 ≤ a ∧ a ≤ 400) ∧ (inB 0 400 b = true ∧ 0 ≤ b ∧ b ≤ 400) ∨ (inB 0 400 a && inB 0 400 b) = false ∧ (inB 0 400 a = false ∧ ¬ (0 ≤ a ∧ a ≤ 400) ∨ (inB 0 400 a = true ∧ 0 ≤ a ∧ a ≤ 400) ∧ inB 0 400 b = false ∧ ¬ (0 ≤ b ∧ b ≤ 400)) := by
  rcases inB_cases 0 400 a with h | h <;> rcases inB_cases 0 400 b with k | k
  · exact .inl ⟨h, k⟩
  · exact .inr ⟨by rw [k.1, Bool.and_false], .inr ⟨h, k⟩⟩
  · exact .inr ⟨by rw [h.1, Bool.false_and], .inl h⟩
  · exact .inr ⟨by rw [h.1, Bool.false_and], .inl h⟩
/-- The error of months, behind those whose names and sums are given. -/
def monthsGo : List ByteArray → Int → Int → List Mon → Int
  | _, a, b, [] => if a = 0 ∨ b = 0 then 8 else 0
  | seen, a, b, (s, f, g) :: l => if isName s = false then 5 else if (seen.any fun t => t.toList == s.toList) = true then 7 else if (inB 0 400 f && inB 0 400 g) = false then 3 else monthsGo (seen ++ [s]) (a + f) (b + g) l
theorem monthsGo_cons (seen : List ByteArray) (a b : Int) (s : ByteArray) (f g : Int) (l : List Mon) :
    monthsGo seen a b ((s, f, g) :: l) = if isName s = false then 5 else if (seen.any fun t => t.toList == s.toList) = true then 7 else if (inB 0 400 f && inB 0 400 g) = false then 3 else monthsGo (seen ++ [s]) (a + f) (b + g) l := by
  rw [monthsGo.eq_def]
def monthsErr (ms : List Mon) : Int := if ¬ (1 ≤ ms.length ∧ ms.length ≤ 20) then 2 else monthsGo [] 0 0 ms
def shortOf (ms : List Mon) : Int := (ms.map (·.2.1)).sum
def longOf (ms : List Mon) : Int := (ms.map (·.2.2)).sum
theorem drop_one {α : Type} {xs : List α} {k : Nat} {x : α} (h : xs[k]? = some x) : xs.drop k = x :: xs.drop (k + 1) := by
  obtain ⟨hl, rfl⟩ := List.getElem?_eq_some_iff.1 h
  exact List.drop_eq_getElem_cons hl
theorem take_one {α : Type} {xs : List α} {k : Nat} {x : α} (h : xs[k]? = some x) : xs.take (k + 1) = xs.take k ++ [x] := by
  obtain ⟨hl, rfl⟩ := List.getElem?_eq_some_iff.1 h
  exact List.take_succ_eq_append_getElem hl
theorem any_names (ms : List Mon) (s : ByteArray) : ((ms.map (·.1)).any fun t => t.toList == s.toList) = ms.any fun x => x.1.toList == s.toList := by
  rw [List.any_map]; rfl

theorem rule_isLength (x : Int) (w : World) : Calls Tryz.prog 133 #[.int .i64 x] w fun e w' => e = .returned (.bool (inB 0 400 x)) ∧ w = w' := by
  by_cases h1 : 0 ≤ x
  · by_cases h2 : x ≤ 400
    · have ho := Lib.hid (inB_yes h1 h2)
      go_enter Tryz.func133, Tryz.ntmps133
      go_wp2_with fail
      go_ret
      exact ⟨ret_bool (by rw [ho.out]), rfl⟩
    · have ho := Lib.hid (inB_no (l := 0) (h := 400) (x := x) (by omega))
      go_enter Tryz.func133, Tryz.ntmps133
      go_wp2_with fail
      go_ret
      exact ⟨ret_bool (by rw [ho.out]), rfl⟩
  · have ho := Lib.hid (inB_no (l := 0) (h := 400) (x := x) (by omega))
    go_enter Tryz.func133, Tryz.ntmps133
    go_wp2_with fail
    go_ret
    exact ⟨ret_bool (by rw [ho.out]), rfl⟩
/-- The error of a name, an epoch and a cycle. -/
def headErr (s : ByteArray) (f c : Int) : Int := if isName s = false then 5 else if (inB (-4000000) 4000000 f && inB 1 3000 c) = false then 3 else 0
theorem rule_Head (s : ByteArray) (f c : Int) (w : World) (hs : s.size ≤ 9223372036854775807) :
    Calls Tryz.prog 95 #[.string s, .int .i64 f, .int .i64 c] w fun e w' => e = .returned (.int .i64 (headErr s f c)) ∧ w = w' := by
  rcases Bool.eq_false_or_eq_true (isName s) with hn | hn
  case inr =>
    have ho := Lib.hid (show headErr s f c = 5 by rw [headErr, if_pos hn])
    go_enter Tryz.func95, Tryz.ntmps95
    go_wp2_with fail
    refine (rule_IsName _ _ hs).mono ?_; rw [hn]; rintro e w1 ⟨rfl, rfl⟩
    go_wp2_with fail
    go_ret
    exact ⟨ret_int (by rw [ho.out]), rfl⟩
  have hn' : ¬ isName s = false := by rw [hn]; simp
  rcases inB_cases (-4000000) 4000000 f with ⟨hf, f1, f2⟩ | ⟨hf, f1⟩
  case inr =>
    have ho := Lib.hid (show headErr s f c = 3 by rw [headErr, if_neg hn', hf]; rfl)
    clear hn'
    go_enter Tryz.func95, Tryz.ntmps95
    go_wp2_with fail
    refine (rule_IsName _ _ hs).mono ?_; rw [hn]; rintro e w1 ⟨rfl, rfl⟩
    go_wp2_with fail
    refine (line_Is _ _).mono ?_; rw [hf]; rintro e w1 ⟨rfl, rfl⟩
    go_wp2_with fail
    go_ret
    exact ⟨ret_int (by rw [ho.out]), rfl⟩
  have ho := Lib.hid (show headErr s f c = if inB 1 3000 c = false then 3 else 0 by rw [headErr, if_neg hn', hf, Bool.true_and])
  clear hn'
  by_cases c1 : 1 ≤ c
  · by_cases c2 : c ≤ 3000
    all_goals
      have hc := Lib.hid (show inB 1 3000 c = decide (c ≤ 3000) by unfold inB; simp [c1])
      go_enter Tryz.func95, Tryz.ntmps95
      go_wp2_with fail
      refine (rule_IsName _ _ hs).mono ?_; rw [hn]; rintro e w1 ⟨rfl, rfl⟩
      go_wp2_with fail
      refine (line_Is _ _).mono ?_; rw [hf]; rintro e w1 ⟨rfl, rfl⟩
      go_wp2_with fail
      go_ret
      exact ⟨ret_int (by rw [ho.out, hc.out]; simp [c2]), rfl⟩
  · have hc := Lib.hid (inB_no (l := 1) (h := 3000) (x := c) (by omega))
    go_enter Tryz.func95, Tryz.ntmps95
    go_wp2_with fail
    refine (rule_IsName _ _ hs).mono ?_; rw [hn]; rintro e w1 ⟨rfl, rfl⟩
    go_wp2_with fail
    refine (line_Is _ _).mono ?_; rw [hf]; rintro e w1 ⟨rfl, rfl⟩
    go_wp2_with fail
    go_ret
    exact ⟨ret_int (by rw [ho.out, hc.out]; rfl), rfl⟩

/-! slices.ContainsFunc with the closure of rule.Months: a month of this name. -/
theorem months_closure (w : World) (s t : ByteArray) (f g : Int) (B : Nat) (hB : B < w.heap.size) (hc : w.cell? ⟨B, 0, none⟩ = some (.string t)) :
    Calls Tryz.prog 132 #[.agg #[.string s, .int .i64 f, .int .i64 g], .pointer (some ⟨B, 0, none⟩)] w fun e w' => e = .returned (.bool (s.toList == t.toList)) ∧ Below w.heap.size w w' := by
  have hne : B ≠ w.heap.size := by omega
  go_enter Tryz.func132, Tryz.ntmps132
  go_wp2_with fail
  go_ret
  exact ⟨rfl, by (repeat' (first | exact Below.refl _ _ | assumption | refine Below.drew ?_ | refine below_drewN ?_ _ | refine below_new ?_ _ | refine below_set ?_ ?_ _ | refine below_then ?_ (by assumption) | refine below_drawn ?_ (by assumption) | exact Nat.le_refl _ | omega | (simp; done) | (simp; omega)))⟩
def idxName (t : ByteArray) (ms : List Mon) (w : World) (e : Ending) (w' : World) : Prop :=
  ∃ i : Int, e = .returned (.int .i64 i) ∧ decide (0 ≤ i) = (ms.any fun x => x.1.toList == t.toList) ∧ Below w.heap.size w w'
set_option maxHeartbeats 1000000 in
theorem slices_IndexFunc_months (w : World) (a : Option Addr) (n c : Nat) (ms : List Mon) (t : ByteArray) (B : Nat) (h : Months w w.heap.size a n ms) (hB : B < w.heap.size) (hc : w.cell? ⟨B, 0, none⟩ = some (.string t)) :
    Calls Tryz.prog 162 #[.slice a n c, .func (.func 132) #[] #[.pointer (some ⟨B, 0, none⟩)]] w (idxName t ms w) := by
  have l1 := Lib.hid h.len
  have m1 := h.max
  have H := Lib.hid h; clear h
  have HC := Lib.hid hc; clear hc
  go_enter Tryz.func162, Tryz.ntmps162
  go_wp2_with fail
  go_loopw [5, 8] (fun _ i wr => ∃ k : Nat, k ≤ n ∧ i = .int .i64 k ∧ ((ms.take k).any fun x => x.1.toList == t.toList) = false ∧ Below w.heap.size w wr) (fun _ i _ => n - (intOf i).toNat)
  case atStart => exact ⟨0, by omega, rfl, by simp, Below.refl _ _⟩
  case round =>
    obtain ⟨k, hk, rfl, hall, hb⟩ := hrel
    have HA := Lib.hid hall; clear hall
    by_cases hlt : k < n
    · obtain ⟨b, off, rfl, hbB, hcs⟩ := (H.out.below hb (Nat.le_refl _)).open_ (by omega)
      obtain ⟨s, f, g, c0, c1, c2, hx, _⟩ := hcs k hlt
      clear hcs
      have HX := Lib.hid hx; clear hx
      have hcl := months_closure wr s t f g B (Nat.lt_of_lt_of_le hB hb.size) ((hb.cell (p := ⟨B, 0, none⟩) hB).trans HC.out)
      have hnext := Lib.hid (show ((ms.take (k + 1)).any fun x => x.1.toList == t.toList) = (s.toList == t.toList) by rw [take_one HX.out, List.any_append, HA.out]; simp)
      generalize (s.toList == t.toList) = bb at hcl hnext
      cases bb with
      | true =>
        go_wp2_with (go_at_call 132; refine hcl.mono ?_; rintro e w' ⟨rfl, hb'⟩)
        go_ret
        refine ⟨k, rfl, ?_, below_then hb hb'⟩
        rw [decide_eq_true (by omega), eq_comm, List.any_eq_true]
        obtain ⟨y, hy, hy2⟩ := List.any_eq_true.1 hnext.out
        exact ⟨y, List.mem_of_mem_take hy, hy2⟩
      | false =>
        go_wp2_with (go_at_call 132; refine hcl.mono ?_; rintro e w' ⟨rfl, hb'⟩)
        go_roundw
        case rel => exact ⟨k + 1, by omega, by go_num, hnext.out, below_then hb hb'⟩
        case measure => simp [intOf]; omega
    · have hkn : k = n := by omega
      subst hkn
      have hall := HA.out
      rw [List.take_of_length_le (by rw [l1.out]; exact Nat.le_refl _)] at hall
      have HA2 := Lib.hid hall; clear hall
      go_wp2_with fail
      go_ret
      exact ⟨-1, rfl, by rw [HA2.out]; rfl, hb⟩
theorem slices_ContainsFunc_months (w : World) (a : Option Addr) (n c : Nat) (ms : List Mon) (t : ByteArray) (B : Nat) (h : Months w w.heap.size a n ms) (hB : B < w.heap.size) (hc : w.cell? ⟨B, 0, none⟩ = some (.string t)) :
    Calls Tryz.prog 131 #[.slice a n c, .func (.func 132) #[] #[.pointer (some ⟨B, 0, none⟩)]] w fun e w' => e = .returned (.bool (ms.any fun x => x.1.toList == t.toList)) ∧ Below w.heap.size w w' := by
  have H := Lib.hid h; have HC := Lib.hid hc; clear h hc
  go_enter Tryz.func131, Tryz.ntmps131
  go_wp2_with fail
  refine (slices_IndexFunc_months _ _ _ _ _ _ _ H.out hB HC.out).mono ?_
  rintro e w1 ⟨i, rfl, hi, hb⟩
  have HI := Lib.hid hi; clear hi
  go_wp2_with fail
  go_ret
  exact ⟨ret_bool HI.out, hb⟩
end Go.Proofs.YtfbmlbenffkpfaaGreatDoor
