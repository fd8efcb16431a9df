/- Contracts of observed.Check and of the reference's TableError. -/
import Derived.Test.YtddiicljoekhmabMem2
import Derived.Test.YtddiicljoekhmabLine
import Derived.Test.YtddiicljoekhmabName
namespace Go.Proofs.Ytddiicljoekhmab
set_option linter.unusedVariables false
set_option maxRecDepth 100000
open Go.RowKit

def mOk (m : Int) : Bool := decide (m = 12 ∨ m = 13)
/-- The error of a list of first days, p being the one before. -/
def startsErr : Option Int → List Int → Int
  | _, [] => 0
  | p, d :: l => if inB (-4000000) 4000000 d = false then 3 else if (match p with | some q => !decide (q < d ∧ d ≤ q + 40) | none => false) = true then 9 else startsErr (some d) l
theorem startsErr_cons (p : Option Int) (d : Int) (l : List Int) : startsErr p (d :: l) = if inB (-4000000) 4000000 d = false then 3 else if (match p with | some q => !decide (q < d ∧ d ≤ q + 40) | none => false) = true then 9 else startsErr (some d) l := by
  rw [startsErr.eq_def]
/-- The error of a table. -/
def tableErr (s : ByteArray) (f : Int) (ms ss : List Int) : Int :=
  if isName s = false then 5 else
  if ¬ (1 ≤ ms.length ∧ ms.length ≤ 40) then 2 else
  if ¬ (-10000 ≤ f ∧ f + ms.length ≤ 10001) then 3 else
  if ms.all mOk = false then 8 else
  if (ss.length : Int) ≠ ms.sum + 1 then 8 else startsErr none ss
def prevI (xs : List Int) : Nat → Option Int
  | 0 => none
  | k + 1 => xs[k]?
theorem drop_is {α : Type} {xs : List α} {k : Nat} {x : α} (h : xs[k]? = some x) : xs.drop k = x :: xs.drop (k + 1) := by
  obtain ⟨hl, rfl⟩ := List.getElem?_eq_some_iff.1 h
  exact List.drop_eq_getElem_cons hl
theorem take_is {α : Type} {xs : List α} {k : Nat} {x : α} (h : xs[k]? = some x) : xs.take (k + 1) = xs.take k ++ [x] := by
  obtain ⟨hl, rfl⟩ := List.getElem?_eq_some_iff.1 h
  exact List.take_succ_eq_append_getElem hl
theorem sum_bound (k : Nat) : ∀ (ms : List Int), (∀ m ∈ ms, mOk m = true) → ms.length ≤ k → 0 ≤ ms.sum ∧ ms.sum ≤ 13 * k := by
  induction k with
  | zero => intro ms _ h; have : ms = [] := List.eq_nil_of_length_eq_zero (by omega); subst this; simp
  | succ k ih =>
    intro ms hm h
    match ms with
    | [] => simp; omega
    | m :: l =>
      have h1 := ih l (fun x hx => hm x (List.mem_cons_of_mem _ hx)) (by simpa using h)
      have h2 := hm m (List.mem_cons_self)
      simp only [mOk, decide_eq_true_eq] at h2
      rw [List.sum_cons]; omega
theorem mall_bad {ms : List Int} {k : Nat} {x : Int} (hx : ms[k]? = some x) (h : mOk x = false) : ms.all mOk = false := by
  rw [List.all_eq_false]; exact ⟨x, List.mem_of_getElem? hx, by rw [h]; simp⟩

set_option maxHeartbeats 2000000 in
theorem observed_Check (w : World) (s : ByteArray) (f : Int) (a1 a2 : Option Addr) (n1 c1 n2 c2 : Nat) (ms ss : List Int) (hs : s.size ≤ 9223372036854775807) (f1 : -9223372036854775808 ≤ f) (f2 : f ≤ 9223372036854775807)
    (h1 : Ints w w.heap.size a1 n1 ms) (h2 : Ints w w.heap.size a2 n2 ss) :
    Calls Try.prog 20 #[.agg #[.string s, .int .i64 f, .slice a1 n1 c1, .slice a2 n2 c2]] w fun e w' => e = .returned (.int .i64 (tableErr s f ms ss)) ∧ Below w.heap.size w w' := by
  have l1 := h1.1
  have l2 := h2.1
  have m1 := h1.2.1
  have m2 := h2.2.1
  have H1 := Lib.hid h1; have H2 := Lib.hid h2; clear h1 h2
  rcases Bool.eq_false_or_eq_true (isName s) with hnm | hnm
  case inr =>
    have ho := Lib.hid (show tableErr s f ms ss = 5 by rw [tableErr, if_pos hnm])
    go_enter Try.func20, Try.ntmps20
    go_wp2_with (first | (go_at_call 29; refine (rule_IsName _ _ hs).mono ?_; rintro e w1 ⟨rfl, rfl⟩) | (go_at_call 30; refine (line_Is _ _).mono ?_; rintro e w1 ⟨rfl, rfl⟩))
    go_ret
    exact ⟨ret_int (by rw [ho.out]), (Below.refl _ _).alloc (Nat.le_refl _) _⟩
  have hnm' : ¬ isName s = false := by rw [hnm]; simp
  by_cases hn : 1 ≤ n1 ∧ n1 ≤ 40
  case neg =>
    have ho := Lib.hid (show tableErr s f ms ss = 2 by rw [tableErr, if_neg hnm', if_pos (by omega)])
    have hq : n1 < 1 ∨ 40 < n1 := by omega
    clear hn hnm'
    rcases hq with q | q
    all_goals
      go_enter Try.func20, Try.ntmps20
      go_wp2_with (first | (go_at_call 29; refine (rule_IsName _ _ hs).mono ?_; rintro e w1 ⟨rfl, rfl⟩) | (go_at_call 30; refine (line_Is _ _).mono ?_; rintro e w1 ⟨rfl, rfl⟩))
      go_ret
      exact ⟨ret_int (by rw [ho.out]), (Below.refl _ _).alloc (Nat.le_refl _) _⟩
  by_cases hfr : -10000 ≤ f ∧ f + n1 ≤ 10001
  case neg =>
    have ho := Lib.hid (show tableErr s f ms ss = 3 by rw [tableErr, if_neg hnm', if_neg (by omega), if_pos (by omega)])
    obtain ⟨n3, n4⟩ := hn
    have hq : f < -10000 ∨ (-10000 ≤ f ∧ 10001 < f + n1) := by omega
    clear hfr hnm'
    rcases hq with q | ⟨q, q'⟩
    all_goals
      go_enter Try.func20, Try.ntmps20
      go_wp2_with (first | (go_at_call 29; refine (rule_IsName _ _ hs).mono ?_; rintro e w1 ⟨rfl, rfl⟩) | (go_at_call 30; refine (line_Is _ _).mono ?_; rintro e w1 ⟨rfl, rfl⟩))
      go_ret
      exact ⟨ret_int (by rw [ho.out]), (Below.refl _ _).alloc (Nat.le_refl _) _⟩
  have ho := Lib.hid (show tableErr s f ms ss = if ms.all mOk = false then 8 else if (ss.length : Int) ≠ ms.sum + 1 then 8 else startsErr none ss by rw [tableErr, if_neg hnm', if_neg (by omega), if_neg (by omega)])
  obtain ⟨n3, n4⟩ := hn
  obtain ⟨f3, f4⟩ := hfr
  have L1 := Lib.hid l1; have L2 := Lib.hid l2; clear l1 l2 hnm'

  go_enter Try.func20, Try.ntmps20
  go_wp2_with (first | (go_at_call 29; refine (rule_IsName _ _ hs).mono ?_; rintro e w1 ⟨rfl, rfl⟩) | (go_at_call 30; refine (line_Is _ _).mono ?_; rintro e w1 ⟨rfl, rfl⟩))
  go_loop [4, 6, 36] (fun t _ i => ∃ k : Nat, k ≤ n1 ∧ i = .int .i64 k ∧ t = .int .i64 (1 + (ms.take k).sum) ∧ (∀ x ∈ ms.take k, mOk x = true)) (fun _ _ i => n1 - (intOf i).toNat)
  case atStart => exact ⟨0, by omega, rfl, by simp, by simp⟩
  case round =>
    obtain ⟨k, hk, rfl, rfl, hall⟩ := hrel
    have HA := Lib.hid hall
    obtain ⟨sb1, sb2⟩ := sum_bound k (ms.take k) hall (List.length_take_le _ _)
    clear hall
    by_cases hlt : k < n1
    · obtain ⟨b1, o1, x, rfl, hb1, hc1, hx, x1, x2⟩ := H1.out.at_ hlt
      have hsum := Lib.hid (show (ms.take (k + 1)).sum = (ms.take k).sum + x by rw [take_is hx, List.sum_append]; simp)
      have HX := Lib.hid hx; clear hx
      generalize (ms.take k).sum = S at *
      by_cases hm : x = 12 ∨ x = 13
      · have hxb : 12 ≤ x ∧ x ≤ 13 := by omega
        obtain ⟨xb1, xb2⟩ := hxb
        have hxc : (x != 12) = false ∨ ((x != 12) = true ∧ (x != 13) = false) := by
          rcases hm with rfl | rfl <;> simp
        rcases hxc with hx1 | ⟨hx1, hx2⟩
        all_goals have HM := Lib.hid hm
        all_goals clear hm
        all_goals
          go_wp2_with (first | (go_at_call 29; refine (rule_IsName _ _ hs).mono ?_; rintro e w1 ⟨rfl, rfl⟩) | (go_at_call 30; refine (line_Is _ _).mono ?_; rintro e w1 ⟨rfl, rfl⟩))
          go_round
          case rel =>
            refine ⟨k + 1, by omega, by go_num, by rw [hsum.out]; (try go_num), ?_⟩
            rw [take_is HX.out]
            intro z hz
            rcases List.mem_append.1 hz with hz | hz
            · exact HA.out z hz
            · rw [List.mem_singleton] at hz; subst hz; exact decide_eq_true HM.out
          case measure => simp [intOf]; omega
      · have hfin := Lib.hid (ho.out.trans (if_pos (mall_bad HX.out (decide_eq_false hm))))
        have hx1 : (x != 12) = true := by simp; omega
        have hx2 : (x != 13) = true := by simp; omega
        clear hm
        go_wp2_with (first | (go_at_call 29; refine (rule_IsName _ _ hs).mono ?_; rintro e w1 ⟨rfl, rfl⟩) | (go_at_call 30; refine (line_Is _ _).mono ?_; rintro e w1 ⟨rfl, rfl⟩))
        go_ret
        exact ⟨ret_int (by rw [hfin.out]), (Below.refl _ _).alloc (Nat.le_refl _) _⟩
    · have hkn : k = n1 := by omega
      subst hkn
      have hall := HA.out
      rw [List.take_of_length_le (by rw [L1.out]; exact Nat.le_refl _)] at hall sb1 sb2 ⊢
      have ho2 := ho.out
      rw [if_neg (by rw [List.all_eq_true.2 hall]; simp)] at ho2
      have HO := Lib.hid ho2; clear ho2 hall HA
      generalize ms.sum = S at *
      by_cases hne : (n2 : Int) ≠ S + 1
      · have hfin := Lib.hid (HO.out.trans (if_pos (by rw [L2.out]; exact hne)))
        have hbn : ((n2 : Int) != (1 + S)) = true := by simp; omega
        clear hne
        go_wp2_with fail
        go_ret
        exact ⟨ret_int (by rw [hfin.out]), (Below.refl _ _).alloc (Nat.le_refl _) _⟩
      have hbn : ((n2 : Int) != (1 + S)) = false := by simp; omega
      have hst0 := Lib.hid (HO.out.trans (if_neg (by rw [L2.out]; exact hne)))
      clear hne HO
      go_wp2_with fail
      go_loop [7, 8, 58] (fun _ _ i => ∃ j : Nat, j ≤ n2 ∧ i = .int .i64 j ∧ startsErr (prevI ss j) (ss.drop j) = startsErr none ss ∧ (∀ q, prevI ss j = some q → -4000000 ≤ q ∧ q ≤ 4000000)) (fun _ _ i => n2 - (intOf i).toNat)
      case atStart => exact ⟨0, by omega, rfl, rfl, fun q h => by cases h⟩
      case round =>
        obtain ⟨j, hj, rfl, hall, hpr⟩ := hrel
        have HPR := Lib.hid hpr; clear hpr
        by_cases hlt2 : j < n2
        · obtain ⟨b2, o2, d, rfl, hb2, hc2, hd, d1, d2⟩ := H2.out.at_ hlt2
          rw [drop_is hd, startsErr_cons] at hall
          have hnext := Lib.hid (show prevI ss (j + 1) = some d from hd)
          clear hd
          rcases inB_cases (-4000000) 4000000 d with ⟨hdb, d3, d4⟩ | ⟨hdb, hdn⟩
          case inr =>
            rw [if_pos hdb] at hall
            have hfin := Lib.hid (hst0.out.trans hall.symm); clear hall
            go_wp2_with (first | (go_at_call 29; refine (rule_IsName _ _ hs).mono ?_; rintro e w1 ⟨rfl, rfl⟩) | (go_at_call 30; refine (line_Is _ _).mono ?_; rintro e w1 ⟨rfl, rfl⟩))
            go_ret
            exact ⟨ret_int (by rw [hfin.out]), (Below.refl _ _).alloc (Nat.le_refl _) _⟩
          rw [if_neg (by rw [hdb]; simp)] at hall
          by_cases hj0 : j = 0
          · subst hj0
            rw [prevI, if_neg (by simp)] at hall
            have HS := Lib.hid hall; clear hall
            simp only [Nat.add_zero] at hc2
            go_wp2_with (first | (go_at_call 29; refine (rule_IsName _ _ hs).mono ?_; rintro e w1 ⟨rfl, rfl⟩) | (go_at_call 30; refine (line_Is _ _).mono ?_; rintro e w1 ⟨rfl, rfl⟩))
            go_round
            case rel => exact ⟨1, by omega, by go_num, by rw [hnext.out]; exact HS.out, by rw [hnext.out]; intro q h; injection h with h; omega⟩
            case measure => simp [intOf]; omega
          · obtain ⟨i, rfl⟩ : ∃ i, j = i + 1 := ⟨j - 1, by omega⟩
            obtain ⟨b3, o3, q, e3, hb3, hc3, hq, q1, q2⟩ := H2.out.at_ (show i < n2 by omega)
            injection e3 with e3
            injection e3 with e31 e32 _
            subst e31 e32
            obtain ⟨pq1, pq2⟩ := HPR.out q hq
            rw [prevI, hq] at hall
            clear hq
            have hmn : i < n2 := by omega
            by_cases hok : q < d ∧ d ≤ q + 40
            · rw [if_neg (by simpa using hok)] at hall
              have HS := Lib.hid hall; clear hall
              have hqb : -4000040 ≤ q ∧ q ≤ 4000000 := by omega
              obtain ⟨qb1, qb2⟩ := hqb
              obtain ⟨ok1, ok2⟩ := hok

              go_wp2_with (first | (go_at_call 29; refine (rule_IsName _ _ hs).mono ?_; rintro e w1 ⟨rfl, rfl⟩) | (go_at_call 30; refine (line_Is _ _).mono ?_; rintro e w1 ⟨rfl, rfl⟩))
              go_round
              case rel => exact ⟨i + 1 + 1, by omega, by go_num, by rw [hnext.out]; exact HS.out, by rw [hnext.out]; intro q h; injection h with h; omega⟩
              case measure => simp [intOf]; omega
            · rw [if_pos (by simp; omega)] at hall
              have hfin := Lib.hid (hst0.out.trans hall.symm); clear hall
              have hoc : d ≤ q ∨ (q < d ∧ q + 40 < d) := by omega
              clear hok
              have qc : q ≤ 9223372036854775767 ∨ 9223372036854775767 < q := by omega
              have hw := Lib.hid hoc
              rcases hoc with ok | ⟨ok1, ok2⟩
              all_goals
                go_wp2_with (first | (go_at_call 29; refine (rule_IsName _ _ hs).mono ?_; rintro e w1 ⟨rfl, rfl⟩) | (go_at_call 30; refine (line_Is _ _).mono ?_; rintro e w1 ⟨rfl, rfl⟩))
                go_ret
                exact ⟨ret_int (by rw [hfin.out]), (Below.refl _ _).alloc (Nat.le_refl _) _⟩
        · rw [List.drop_eq_nil_of_le (by have := L2.out; omega), startsErr.eq_def] at hall
          have hfin := Lib.hid (hst0.out.trans hall.symm); clear hall
          go_wp2_with fail
          go_ret
          exact ⟨ret_int (by rw [hfin.out]), (Below.refl _ _).alloc (Nat.le_refl _) _⟩

set_option maxHeartbeats 2000000 in
theorem ref_TableError (w : World) (s : ByteArray) (f : Int) (a1 a2 : Option Addr) (n1 c1 n2 c2 : Nat) (ms ss : List Int) (hs : s.size ≤ 9223372036854775807) (f1 : -9223372036854775808 ≤ f) (f2 : f ≤ 9223372036854775807)
    (h1 : Ints w w.heap.size a1 n1 ms) (h2 : Ints w w.heap.size a2 n2 ss) :
    Calls Try.prog 13 #[.agg #[.string s, .int .i64 f, .slice a1 n1 c1, .slice a2 n2 c2]] w fun e w' => e = .returned (.int .i64 (tableErr s f ms ss)) ∧ Below w.heap.size w w' := by
  have l1 := h1.1
  have l2 := h2.1
  have m1 := h1.2.1
  have m2 := h2.2.1
  have H1 := Lib.hid h1; have H2 := Lib.hid h2; clear h1 h2
  rcases Bool.eq_false_or_eq_true (isName s) with hnm | hnm
  case inr =>
    have ho := Lib.hid (show tableErr s f ms ss = 5 by rw [tableErr, if_pos hnm])
    go_enter Try.func13, Try.ntmps13
    go_wp2_with (first | (go_at_call 23; refine (ref_Name _ _ hs).mono ?_; rintro e w1 ⟨rfl, rfl⟩) | (go_at_call 25; refine (ref_Day _ _).mono ?_; rintro e w1 ⟨rfl, rfl⟩) | (go_at_call 24; refine (ref_In _ _ _ _).mono ?_; rintro e w1 ⟨rfl, rfl⟩))
    go_ret
    exact ⟨ret_int (by rw [ho.out]), (Below.refl _ _).alloc (Nat.le_refl _) _⟩
  have hnm' : ¬ isName s = false := by rw [hnm]; simp
  by_cases hn : 1 ≤ n1 ∧ n1 ≤ 40
  case neg =>
    have ho := Lib.hid (show tableErr s f ms ss = 2 by rw [tableErr, if_neg hnm', if_pos (by omega)])
    have hb : inB 1 40 (n1 : Int) = false := inB_no (by omega)
    clear hn hnm'
    go_enter Try.func13, Try.ntmps13
    go_wp2_with (first | (go_at_call 23; refine (ref_Name _ _ hs).mono ?_; rintro e w1 ⟨rfl, rfl⟩) | (go_at_call 25; refine (ref_Day _ _).mono ?_; rintro e w1 ⟨rfl, rfl⟩) | (go_at_call 24; refine (ref_In _ _ _ _).mono ?_; rintro e w1 ⟨rfl, rfl⟩))
    go_ret
    exact ⟨ret_int (by rw [ho.out]), (Below.refl _ _).alloc (Nat.le_refl _) _⟩
  by_cases hfr : -10000 ≤ f ∧ f + n1 ≤ 10001
  case neg =>
    have ho := Lib.hid (show tableErr s f ms ss = 3 by rw [tableErr, if_neg hnm', if_neg (by omega), if_pos (by omega)])
    obtain ⟨n3, n4⟩ := hn
    have hb1 : inB 1 40 (n1 : Int) = true := inB_yes (by omega) (by omega)
    clear hnm'
    rcases inB_cases (-10000) 10000 f with ⟨hb, hbf⟩ | ⟨hb, hbf⟩
    · have q : 10000 < f + n1 - 1 := by omega
      clear hfr
      go_enter Try.func13, Try.ntmps13
      go_wp2_with (first | (go_at_call 23; refine (ref_Name _ _ hs).mono ?_; rintro e w1 ⟨rfl, rfl⟩) | (go_at_call 25; refine (ref_Day _ _).mono ?_; rintro e w1 ⟨rfl, rfl⟩) | (go_at_call 24; refine (ref_In _ _ _ _).mono ?_; rintro e w1 ⟨rfl, rfl⟩))
      go_ret
      exact ⟨ret_int (by rw [ho.out]), (Below.refl _ _).alloc (Nat.le_refl _) _⟩
    · clear hfr
      go_enter Try.func13, Try.ntmps13
      go_wp2_with (first | (go_at_call 23; refine (ref_Name _ _ hs).mono ?_; rintro e w1 ⟨rfl, rfl⟩) | (go_at_call 25; refine (ref_Day _ _).mono ?_; rintro e w1 ⟨rfl, rfl⟩) | (go_at_call 24; refine (ref_In _ _ _ _).mono ?_; rintro e w1 ⟨rfl, rfl⟩))
      go_ret
      exact ⟨ret_int (by rw [ho.out]), (Below.refl _ _).alloc (Nat.le_refl _) _⟩
  have ho := Lib.hid (show tableErr s f ms ss = if ms.all mOk = false then 8 else if (ss.length : Int) ≠ ms.sum + 1 then 8 else startsErr none ss by rw [tableErr, if_neg hnm', if_neg (by omega), if_neg (by omega)])
  obtain ⟨n3, n4⟩ := hn
  obtain ⟨f3, f4⟩ := hfr
  have L1 := Lib.hid l1; have L2 := Lib.hid l2; clear l1 l2 hnm'
  have hb1 : inB 1 40 (n1 : Int) = true := inB_yes (by omega) (by omega)
  have hb2 : inB (-10000) 10000 f = true := inB_yes (by omega) (by omega)

  go_enter Try.func13, Try.ntmps13
  go_wp2_with (first | (go_at_call 23; refine (ref_Name _ _ hs).mono ?_; rintro e w1 ⟨rfl, rfl⟩) | (go_at_call 25; refine (ref_Day _ _).mono ?_; rintro e w1 ⟨rfl, rfl⟩) | (go_at_call 24; refine (ref_In _ _ _ _).mono ?_; rintro e w1 ⟨rfl, rfl⟩))
  go_loop [3, 5, 34] (fun t _ i => ∃ k : Nat, k ≤ n1 ∧ i = .int .i64 k ∧ t = .int .i64 ((ms.take k).sum) ∧ (∀ x ∈ ms.take k, mOk x = true)) (fun _ _ i => n1 - (intOf i).toNat)
  case atStart => exact ⟨0, by omega, rfl, by simp, by simp⟩
  case round =>
    obtain ⟨k, hk, rfl, rfl, hall⟩ := hrel
    have HA := Lib.hid hall
    obtain ⟨sb1, sb2⟩ := sum_bound k (ms.take k) hall (List.length_take_le _ _)
    clear hall
    by_cases hlt : k < n1
    · obtain ⟨b1, o1, x, rfl, hb1, hc1, hx, x1, x2⟩ := H1.out.at_ hlt
      have hsum := Lib.hid (show (ms.take (k + 1)).sum = (ms.take k).sum + x by rw [take_is hx, List.sum_append]; simp)
      have HX := Lib.hid hx; clear hx
      generalize (ms.take k).sum = S at *
      by_cases hm : x = 12 ∨ x = 13
      · have hxb : 12 ≤ x ∧ x ≤ 13 := by omega
        obtain ⟨xb1, xb2⟩ := hxb
        have hib : inB 12 13 x = true := inB_yes xb1 xb2
        have HM := Lib.hid hm; clear hm
        all_goals
          go_wp2_with (first | (go_at_call 23; refine (ref_Name _ _ hs).mono ?_; rintro e w1 ⟨rfl, rfl⟩) | (go_at_call 25; refine (ref_Day _ _).mono ?_; rintro e w1 ⟨rfl, rfl⟩) | (go_at_call 24; refine (ref_In _ _ _ _).mono ?_; rintro e w1 ⟨rfl, rfl⟩))
          go_round
          case rel =>
            refine ⟨k + 1, by omega, by go_num, by rw [hsum.out]; (try go_num), ?_⟩
            rw [take_is HX.out]
            intro z hz
            rcases List.mem_append.1 hz with hz | hz
            · exact HA.out z hz
            · rw [List.mem_singleton] at hz; subst hz; exact decide_eq_true HM.out
          case measure => simp [intOf]; omega
      · have hfin := Lib.hid (ho.out.trans (if_pos (mall_bad HX.out (decide_eq_false hm))))
        have hib : inB 12 13 x = false := inB_no (by omega)
        clear hm
        go_wp2_with (first | (go_at_call 23; refine (ref_Name _ _ hs).mono ?_; rintro e w1 ⟨rfl, rfl⟩) | (go_at_call 25; refine (ref_Day _ _).mono ?_; rintro e w1 ⟨rfl, rfl⟩) | (go_at_call 24; refine (ref_In _ _ _ _).mono ?_; rintro e w1 ⟨rfl, rfl⟩))
        go_ret
        exact ⟨ret_int (by rw [hfin.out]), (Below.refl _ _).alloc (Nat.le_refl _) _⟩
    · have hkn : k = n1 := by omega
      subst hkn
      have hall := HA.out
      rw [List.take_of_length_le (by rw [L1.out]; exact Nat.le_refl _)] at hall sb1 sb2 ⊢
      have ho2 := ho.out
      rw [if_neg (by rw [List.all_eq_true.2 hall]; simp)] at ho2
      have HO := Lib.hid ho2; clear ho2 hall HA
      generalize ms.sum = S at *
      by_cases hne : (n2 : Int) ≠ S + 1
      · have hfin := Lib.hid (HO.out.trans (if_pos (by rw [L2.out]; exact hne)))
        have hbn : ((n2 : Int) != (S + 1)) = true := by simp; omega
        clear hne
        go_wp2_with fail
        go_ret
        exact ⟨ret_int (by rw [hfin.out]), (Below.refl _ _).alloc (Nat.le_refl _) _⟩
      have hbn : ((n2 : Int) != (S + 1)) = false := by simp; omega
      have hst0 := Lib.hid (HO.out.trans (if_neg (by rw [L2.out]; exact hne)))
      clear hne HO
      go_wp2_with fail
      go_loop [6, 7, 54] (fun _ _ i => ∃ j : Nat, j ≤ n2 ∧ i = .int .i64 j ∧ startsErr (prevI ss j) (ss.drop j) = startsErr none ss ∧ (∀ q, prevI ss j = some q → -4000000 ≤ q ∧ q ≤ 4000000)) (fun _ _ i => n2 - (intOf i).toNat)
      case atStart => exact ⟨0, by omega, rfl, rfl, fun q h => by cases h⟩
      case round =>
        obtain ⟨j, hj, rfl, hall, hpr⟩ := hrel
        have HPR := Lib.hid hpr; clear hpr
        by_cases hlt2 : j < n2
        · obtain ⟨b2, o2, d, rfl, hb2, hc2, hd, d1, d2⟩ := H2.out.at_ hlt2
          rw [drop_is hd, startsErr_cons] at hall
          have hnext := Lib.hid (show prevI ss (j + 1) = some d from hd)
          clear hd
          rcases inB_cases (-4000000) 4000000 d with ⟨hdb, d3, d4⟩ | ⟨hdb, hdn⟩
          case inr =>
            rw [if_pos hdb] at hall
            have hfin := Lib.hid (hst0.out.trans hall.symm); clear hall
            go_wp2_with (first | (go_at_call 23; refine (ref_Name _ _ hs).mono ?_; rintro e w1 ⟨rfl, rfl⟩) | (go_at_call 25; refine (ref_Day _ _).mono ?_; rintro e w1 ⟨rfl, rfl⟩) | (go_at_call 24; refine (ref_In _ _ _ _).mono ?_; rintro e w1 ⟨rfl, rfl⟩))
            go_ret
            exact ⟨ret_int (by rw [hfin.out]), (Below.refl _ _).alloc (Nat.le_refl _) _⟩
          rw [if_neg (by rw [hdb]; simp)] at hall
          by_cases hj0 : j = 0
          · subst hj0
            rw [prevI, if_neg (by simp)] at hall
            have HS := Lib.hid hall; clear hall
            simp only [Nat.add_zero] at hc2
            go_wp2_with (first | (go_at_call 23; refine (ref_Name _ _ hs).mono ?_; rintro e w1 ⟨rfl, rfl⟩) | (go_at_call 25; refine (ref_Day _ _).mono ?_; rintro e w1 ⟨rfl, rfl⟩) | (go_at_call 24; refine (ref_In _ _ _ _).mono ?_; rintro e w1 ⟨rfl, rfl⟩))
            go_round
            case rel => exact ⟨1, by omega, by go_num, by rw [hnext.out]; exact HS.out, by rw [hnext.out]; intro q h; injection h with h; omega⟩
            case measure => simp [intOf]; omega
          · obtain ⟨i, rfl⟩ : ∃ i, j = i + 1 := ⟨j - 1, by omega⟩
            obtain ⟨b3, o3, q, e3, hb3, hc3, hq, q1, q2⟩ := H2.out.at_ (show i < n2 by omega)
            injection e3 with e3
            injection e3 with e31 e32 _
            subst e31 e32
            obtain ⟨pq1, pq2⟩ := HPR.out q hq
            rw [prevI, hq] at hall
            clear hq
            have hmn : i < n2 := by omega
            by_cases hok : q < d ∧ d ≤ q + 40
            · rw [if_neg (by simpa using hok)] at hall
              have HS := Lib.hid hall; clear hall
              have hqb : -4000040 ≤ q ∧ q ≤ 4000000 := by omega
              obtain ⟨qb1, qb2⟩ := hqb
              obtain ⟨ok1, ok2⟩ := hok
              have hib : inB 1 40 (d - q) = true := inB_yes (by omega) (by omega)
              go_wp2_with (first | (go_at_call 23; refine (ref_Name _ _ hs).mono ?_; rintro e w1 ⟨rfl, rfl⟩) | (go_at_call 25; refine (ref_Day _ _).mono ?_; rintro e w1 ⟨rfl, rfl⟩) | (go_at_call 24; refine (ref_In _ _ _ _).mono ?_; rintro e w1 ⟨rfl, rfl⟩))
              go_round
              case rel => exact ⟨i + 1 + 1, by omega, by go_num, by rw [hnext.out]; exact HS.out, by rw [hnext.out]; intro q h; injection h with h; omega⟩
              case measure => simp [intOf]; omega
            · rw [if_pos (by simp; omega)] at hall
              have hfin := Lib.hid (hst0.out.trans hall.symm); clear hall
              have hib : inB 1 40 (d - q) = false := inB_no (by omega)
              clear hok
              · skip
                go_wp2_with (first | (go_at_call 23; refine (ref_Name _ _ hs).mono ?_; rintro e w1 ⟨rfl, rfl⟩) | (go_at_call 25; refine (ref_Day _ _).mono ?_; rintro e w1 ⟨rfl, rfl⟩) | (go_at_call 24; refine (ref_In _ _ _ _).mono ?_; rintro e w1 ⟨rfl, rfl⟩))
                go_ret
                exact ⟨ret_int (by rw [hfin.out]), (Below.refl _ _).alloc (Nat.le_refl _) _⟩
        · rw [List.drop_eq_nil_of_le (by have := L2.out; omega), startsErr.eq_def] at hall
          have hfin := Lib.hid (hst0.out.trans hall.symm); clear hall
          go_wp2_with fail
          go_ret
          exact ⟨ret_int (by rw [hfin.out]), (Below.refl _ _).alloc (Nat.le_refl _) _⟩
end Go.Proofs.Ytddiicljoekhmab
