/- Contracts of compile.Check and of the reference's CalendarError. -/
import Derived.Test.YtjpbkkoflaajcaaMonths4
namespace Go.Proofs.Ytjpbkkoflaajcaa
set_option linter.unusedVariables false
set_option maxRecDepth 100000
open Go.RowKit

/-- The error of numbers that must lie in a range and increase, p being the one before. -/
def incErr (lo hi : Int) : Option Int → List Int → Int
  | _, [] => 0
  | p, y :: l => if inB lo hi y = false then 3 else if (match p with | some q => decide (y ≤ q) | none => false) = true then 9 else incErr lo hi (some y) l
theorem incErr_cons (lo hi : Int) (p : Option Int) (y : Int) (l : List Int) : incErr lo hi p (y :: l) = if inB lo hi y = false then 3 else if (match p with | some q => decide (y ≤ q) | none => false) = true then 9 else incErr lo hi (some y) l := by
  rw [incErr.eq_def]
def prevAt (xs : List Int) : Nat → Option Int
  | 0 => none
  | k + 1 => xs[k]?
/-- k numbers are in order. -/
def IncTo (lo hi : Int) (xs : List Int) (k : Nat) : Prop := incErr lo hi (prevAt xs k) (xs.drop k) = incErr lo hi none xs
theorem IncTo.start (lo hi : Int) (xs : List Int) : IncTo lo hi xs 0 := rfl
theorem IncTo.range {lo hi : Int} {xs : List Int} {k : Nat} {y : Int} (h : IncTo lo hi xs k) (hx : xs[k]? = some y) (hy : inB lo hi y = false) : incErr lo hi none xs = 3 := by
  rw [← h, drop_one hx, incErr_cons, if_pos hy]
theorem IncTo.first {lo hi : Int} {xs : List Int} {y : Int} (h : IncTo lo hi xs 0) (hx : xs[0]? = some y) (hy : inB lo hi y = true) : IncTo lo hi xs 1 := by
  unfold IncTo at h ⊢
  rw [← h, drop_one hx, incErr_cons, if_neg (by rw [hy]; simp), prevAt, prevAt, hx]
  simp
theorem IncTo.order {lo hi : Int} {xs : List Int} {k : Nat} {y q : Int} (h : IncTo lo hi xs (k + 1)) (hx : xs[k + 1]? = some y) (hq : xs[k]? = some q) (hy : inB lo hi y = true) (hle : y ≤ q) : incErr lo hi none xs = 9 := by
  rw [← h, drop_one hx, incErr_cons, if_neg (by rw [hy]; simp), prevAt, hq, if_pos (by simpa using hle)]
theorem IncTo.next {lo hi : Int} {xs : List Int} {k : Nat} {y q : Int} (h : IncTo lo hi xs (k + 1)) (hx : xs[k + 1]? = some y) (hq : xs[k]? = some q) (hy : inB lo hi y = true) (hle : ¬ y ≤ q) : IncTo lo hi xs (k + 1 + 1) := by
  unfold IncTo at h ⊢
  rw [← h, drop_one hx, incErr_cons, if_neg (by rw [hy]; simp), prevAt, prevAt, hq, hx, if_neg (by simpa using hle)]
theorem IncTo.last {lo hi : Int} {xs : List Int} {k : Nat} (h : IncTo lo hi xs k) (hk : xs.length ≤ k) : incErr lo hi none xs = 0 := by
  rw [← h, List.drop_eq_nil_of_le hk, incErr]
/-- The error of a calendar. -/
def calErr (s : ByteArray) (f c : Int) (ms : List Mon) (ls : List Int) : Int := if headErr s f c ≠ 0 then headErr s f c else if monthsErr ms ≠ 0 then monthsErr ms else incErr 1 c none ls
theorem calErr_head {s : ByteArray} {f c : Int} {ms : List Mon} {ls : List Int} (h : headErr s f c ≠ 0) : calErr s f c ms ls = headErr s f c := if_pos h
theorem calErr_months {s : ByteArray} {f c : Int} {ms : List Mon} {ls : List Int} (h : headErr s f c = 0) (h' : monthsErr ms ≠ 0) : calErr s f c ms ls = monthsErr ms := by rw [calErr, if_neg (by omega), if_pos h']
theorem calErr_leaps {s : ByteArray} {f c : Int} {ms : List Mon} {ls : List Int} (h : headErr s f c = 0) (h' : monthsErr ms = 0) : calErr s f c ms ls = incErr 1 c none ls := by rw [calErr, if_neg (by omega), if_neg (by omega)]

/-- A calendar as a value. -/
def calV (s : ByteArray) (f c : Int) (a1 a2 : Option Addr) (n1 c1 n2 c2 : Nat) : Array Value := #[.string s, .int .i64 f, .int .i64 c, .slice a1 n1 c1, .slice a2 n2 c2]
set_option maxHeartbeats 2000000 in
theorem compile_Check (w : World) (s : ByteArray) (f c : Int) (a1 a2 : Option Addr) (n1 c1 n2 c2 : Nat) (ms : List Mon) (ls : List Int) (hs : s.size ≤ 9223372036854775807) (k1 : n1 ≤ c1)
    (h1 : Months w w.heap.size a1 n1 ms) (h2 : Ints w w.heap.size a2 n2 ls) :
    Calls Try.prog 24 #[.agg #[.string s, .int .i64 f, .int .i64 c, .slice a1 n1 c1, .slice a2 n2 c2]] w fun e w' => e = .returned (.int .i64 (calErr s f c ms ls)) ∧ Below w.heap.size w w' := by
  have H1 := Lib.hid h1; have H2 := Lib.hid h2
  have L2 := Lib.hid h2.1
  have m2 := h2.2.1
  clear h1 h2
  go_enter Try.func24, Try.ntmps24
  go_wp2_with fail
  refine (rule_Head _ _ _ _ hs).mono ?_
  by_cases q1 : headErr s f c = 0
  case neg =>
    have hfin := Lib.hid (calErr_head (ms := ms) (ls := ls) q1)
    have q1' : (headErr s f c != 0) = true := by simpa using q1
    generalize headErr s f c = E at hfin q1' ⊢
    rintro e w1 ⟨rfl, rfl⟩
    clear q1
    go_wp2_with fail
    go_ret
    exact ⟨ret_int (by rw [hfin.out]), by (repeat' (first | exact Below.refl _ _ | assumption | refine Below.drew ?_ | refine below_drewN ?_ _ | refine below_new ?_ _ | refine below_set ?_ ?_ _ | refine below_then ?_ (by assumption) | refine below_drawn ?_ (by assumption) | exact Nat.le_refl _ | omega | (simp; done) | (simp; omega)))⟩
  have Q1 := Lib.hid q1
  rw [q1]
  clear q1
  rintro e w1 ⟨rfl, rfl⟩
  go_wp2_with fail
  refine (rule_Months _ _ _ _ ms k1 ((H1.out.below ((Below.refl _ _).alloc (Nat.le_refl _) _) (Nat.le_refl _)).more (by simp))).mono ?_
  by_cases q2 : monthsErr ms = 0
  case neg =>
    have hfin := Lib.hid (calErr_months (ls := ls) Q1.out q2)
    have q2' : (monthsErr ms != 0) = true := by simpa using q2
    generalize monthsErr ms = E at hfin q2' ⊢
    rintro e w1 ⟨rfl, hb⟩
    clear q2
    go_wp2_with fail
    go_ret
    exact ⟨ret_int (by rw [hfin.out]), by (repeat' (first | exact Below.refl _ _ | assumption | refine Below.drew ?_ | refine below_drewN ?_ _ | refine below_new ?_ _ | refine below_set ?_ ?_ _ | refine below_then ?_ (by assumption) | refine below_drawn ?_ (by assumption) | exact Nat.le_refl _ | omega | (simp; done) | (simp; omega)))⟩
  have hfin := Lib.hid (calErr_leaps (ls := ls) Q1.out q2)
  rw [q2]
  clear q2
  rintro e w1 ⟨rfl, hb⟩
  have a0 := (At.new w (.cells #[.string s, .int .i64 f, .int .i64 c, .slice a1 n1 c1, .slice a2 n2 c2] 30)).then_ hb
  have b0 : Below w.heap.size w w1 := by (repeat' (first | exact Below.refl _ _ | assumption | refine Below.drew ?_ | refine below_drewN ?_ _ | refine below_new ?_ _ | refine below_set ?_ ?_ _ | refine below_then ?_ (by assumption) | refine below_drawn ?_ (by assumption) | exact Nat.le_refl _ | omega | (simp; done) | (simp; omega)))
  have d2 := a0.cell 2; have d4 := a0.cell 4
  simp at d2 d4
  clear hb
  go_wp2_with fail
  go_loop [5, 6, 26] (fun _ _ i => ∃ k : Nat, k ≤ n2 ∧ i = .int .i64 k ∧ IncTo 1 c ls k) (fun _ _ i => n2 - (intOf i).toNat)
  case atStart => exact ⟨0, by omega, rfl, IncTo.start _ _ _⟩
  case round =>
    obtain ⟨k, hk, rfl, hI⟩ := hrel
    have HI := Lib.hid hI; clear hI
    by_cases hlt : k < n2
    · obtain ⟨b, off, y, rfl, hbB, cy, hx, y1, y2⟩ := (H2.out.below b0 (Nat.le_refl _)).at_ hlt
      have HX := Lib.hid hx; clear hx
      rcases inB_cases 1 c y with ⟨hy, e1, e2⟩ | ⟨hy, hy'⟩
      · by_cases hk0 : k = 0
        · subst hk0
          have hnx := Lib.hid (HI.out.first HX.out hy)
          simp only [Nat.add_zero] at cy
          go_wp2_with fail
          go_round
          case rel => exact ⟨1, by omega, rfl, hnx.out⟩
          case measure => simp [intOf]; omega
        · obtain ⟨m, rfl⟩ : ∃ m, k = m + 1 := ⟨k - 1, by omega⟩
          obtain ⟨b', off', q, e', _, cq, hq, qq1, qq2⟩ := (H2.out.below b0 (Nat.le_refl _)).at_ (show m < n2 by omega)
          injection e' with e'
          injection e' with x1 x2
          subst x1 x2
          have HQ := Lib.hid hq; clear hq
          have hmn : m < n2 := by omega
          by_cases hle : y ≤ q
          · have hf2 := Lib.hid (hfin.out.trans (HI.out.order HX.out HQ.out hy hle))
            go_wp2_with fail
            go_ret
            exact ⟨ret_int (by rw [hf2.out]), b0⟩
          · have hnx := Lib.hid (HI.out.next HX.out HQ.out hy hle)
            go_wp2_with fail
            go_round
            case rel => exact ⟨m + 1 + 1, by omega, by go_num, hnx.out⟩
            case measure => simp [intOf]; omega
      · have hf2 := Lib.hid (hfin.out.trans (HI.out.range HX.out hy))
        have hq : y < 1 ∨ (1 ≤ y ∧ c < y) := by omega
        clear hy'
        rcases hq with q | ⟨q, q'⟩
        all_goals
          go_wp2_with fail
          go_ret
          exact ⟨ret_int (by rw [hf2.out]), b0⟩
    · have hf2 := Lib.hid (hfin.out.trans (HI.out.last (by have := L2.out; omega)))
      go_wp2_with fail
      go_ret
      exact ⟨ret_int (by rw [hf2.out]), b0⟩

theorem headErr_name {s : ByteArray} {f c : Int} (h : isName s = false) : headErr s f c = 5 := by rw [headErr, if_pos h]
theorem headErr_range {s : ByteArray} {f c : Int} (h : isName s = true) (h' : (inB (-4000000) 4000000 f && inB 1 3000 c) = false) : headErr s f c = 3 := by rw [headErr, if_neg (by rw [h]; simp), if_pos h']
theorem headErr_ok {s : ByteArray} {f c : Int} (h : isName s = true) (h1 : inB (-4000000) 4000000 f = true) (h2 : inB 1 3000 c = true) : headErr s f c = 0 := by rw [headErr, if_neg (by rw [h]; simp), if_neg (by rw [h1, h2]; simp)]
set_option maxHeartbeats 2000000 in
theorem ref_CalendarError (w : World) (s : ByteArray) (f c : Int) (a1 a2 : Option Addr) (n1 c1 n2 c2 : Nat) (ms : List Mon) (ls : List Int) (hs : s.size ≤ 9223372036854775807)
    (h1 : Months w w.heap.size a1 n1 ms) (h2 : Ints w w.heap.size a2 n2 ls) :
    Calls Try.prog 12 #[.agg #[.string s, .int .i64 f, .int .i64 c, .slice a1 n1 c1, .slice a2 n2 c2]] w fun e w' => e = .returned (.int .i64 (calErr s f c ms ls)) ∧ Below w.heap.size w w' := by
  have H1 := Lib.hid h1; have H2 := Lib.hid h2
  have L2 := Lib.hid h2.1
  have m2 := h2.2.1
  clear h1 h2
  go_enter Try.func12, Try.ntmps12
  go_wp2_with fail
  refine (ref_Name _ _ hs).mono ?_
  rcases Bool.eq_false_or_eq_true (isName s) with hn | hn
  case inr =>
    have hfin := Lib.hid ((calErr_head (ms := ms) (ls := ls) (by rw [headErr_name hn]; omega)).trans (headErr_name (f := f) (c := c) hn))
    rw [hn]
    rintro e w1 ⟨rfl, rfl⟩
    go_wp2_with fail
    go_ret
    exact ⟨ret_int (by rw [hfin.out]), by (repeat' (first | exact Below.refl _ _ | assumption | refine Below.drew ?_ | refine below_drewN ?_ _ | refine below_new ?_ _ | refine below_set ?_ ?_ _ | refine below_then ?_ (by assumption) | refine below_drawn ?_ (by assumption) | exact Nat.le_refl _ | omega | (simp; done) | (simp; omega)))⟩
  rw [hn]
  rintro e w1 ⟨rfl, rfl⟩
  go_wp2_with fail
  refine (ref_Day _ _).mono ?_
  rcases inB_cases (-4000000) 4000000 f with ⟨hf, f1, f2⟩ | ⟨hf, f1⟩
  case inr =>
    have he := headErr_range (c := c) hn (by rw [hf]; rfl)
    have hfin := Lib.hid ((calErr_head (ms := ms) (ls := ls) (by rw [he]; omega)).trans he)
    clear he
    rw [hf]
    rintro e w1 ⟨rfl, rfl⟩
    go_wp2_with fail
    go_ret
    exact ⟨ret_int (by rw [hfin.out]), by (repeat' (first | exact Below.refl _ _ | assumption | refine Below.drew ?_ | refine below_drewN ?_ _ | refine below_new ?_ _ | refine below_set ?_ ?_ _ | refine below_then ?_ (by assumption) | refine below_drawn ?_ (by assumption) | exact Nat.le_refl _ | omega | (simp; done) | (simp; omega)))⟩
  rw [hf]
  rintro e w1 ⟨rfl, rfl⟩
  go_wp2_with fail
  refine (ref_In _ _ _ _).mono ?_
  rcases inB_cases 1 3000 c with ⟨hc, c3, c4⟩ | ⟨hc, c3⟩
  case inr =>
    have he := headErr_range (f := f) hn (by rw [hf, hc]; rfl)
    have hfin := Lib.hid ((calErr_head (ms := ms) (ls := ls) (by rw [he]; omega)).trans he)
    clear he
    rw [hc]
    rintro e w1 ⟨rfl, rfl⟩
    go_wp2_with fail
    go_ret
    exact ⟨ret_int (by rw [hfin.out]), by (repeat' (first | exact Below.refl _ _ | assumption | refine Below.drew ?_ | refine below_drewN ?_ _ | refine below_new ?_ _ | refine below_set ?_ ?_ _ | refine below_then ?_ (by assumption) | refine below_drawn ?_ (by assumption) | exact Nat.le_refl _ | omega | (simp; done) | (simp; omega)))⟩
  rw [hc]
  rintro e w1 ⟨rfl, rfl⟩
  have Q1 := Lib.hid (headErr_ok hn hf hc)
  go_wp2_with fail
  refine (ref_MonthsError _ _ _ _ ms ((H1.out.below ((Below.refl _ _).alloc (Nat.le_refl _) _) (Nat.le_refl _)).more (by simp))).mono ?_
  by_cases q2 : monthsErr ms = 0
  case neg =>
    have hfin := Lib.hid (calErr_months (ls := ls) Q1.out q2)
    have q2' : (monthsErr ms != 0) = true := by simpa using q2
    generalize monthsErr ms = E at hfin q2' ⊢
    rintro e w1 ⟨rfl, hb⟩
    clear q2
    go_wp2_with fail
    go_ret
    exact ⟨ret_int (by rw [hfin.out]), by (repeat' (first | exact Below.refl _ _ | assumption | refine Below.drew ?_ | refine below_drewN ?_ _ | refine below_new ?_ _ | refine below_set ?_ ?_ _ | refine below_then ?_ (by assumption) | refine below_drawn ?_ (by assumption) | exact Nat.le_refl _ | omega | (simp; done) | (simp; omega)))⟩
  have hfin := Lib.hid (calErr_leaps (ls := ls) Q1.out q2)
  rw [q2]
  clear q2
  rintro e w1 ⟨rfl, hd⟩
  have a0 := (At.new w (.cells #[.string s, .int .i64 f, .int .i64 c, .slice a1 n1 c1, .slice a2 n2 c2] 30)).drawn hd
  have b0 : Below w.heap.size w w1 := by (repeat' (first | exact Below.refl _ _ | assumption | refine Below.drew ?_ | refine below_drewN ?_ _ | refine below_new ?_ _ | refine below_set ?_ ?_ _ | refine below_then ?_ (by assumption) | refine below_drawn ?_ (by assumption) | exact Nat.le_refl _ | omega | (simp; done) | (simp; omega)))
  have d2 := a0.cell 2; have d4 := a0.cell 4
  simp at d2 d4
  clear hd
  go_wp2_with fail
  go_loop [4, 5, 29] (fun _ _ i => ∃ k : Nat, k ≤ n2 ∧ i = .int .i64 k ∧ IncTo 1 c ls k) (fun _ _ i => n2 - (intOf i).toNat)
  case atStart => exact ⟨0, by omega, rfl, IncTo.start _ _ _⟩
  case round =>
    obtain ⟨k, hk, rfl, hI⟩ := hrel
    have HI := Lib.hid hI; clear hI
    by_cases hlt : k < n2
    · obtain ⟨b, off, y, rfl, hbB, cy, hx, y1, y2⟩ := (H2.out.below b0 (Nat.le_refl _)).at_ hlt
      have HX := Lib.hid hx; clear hx
      rcases inB_cases 1 c y with ⟨hy, e1, e2⟩ | ⟨hy, hy'⟩
      · by_cases hk0 : k = 0
        · subst hk0
          have hnx := Lib.hid (HI.out.first HX.out hy)
          simp only [Nat.add_zero] at cy
          go_wp2_with fail
          refine (ref_In _ _ _ _).mono ?_; rw [hy]; rintro e w1 ⟨rfl, rfl⟩
          go_wp2_with fail
          go_round
          case rel => exact ⟨1, by omega, rfl, hnx.out⟩
          case measure => simp [intOf]; omega
        · obtain ⟨m, rfl⟩ : ∃ m, k = m + 1 := ⟨k - 1, by omega⟩
          obtain ⟨b', off', q, e', _, cq, hq, qq1, qq2⟩ := (H2.out.below b0 (Nat.le_refl _)).at_ (show m < n2 by omega)
          injection e' with e'
          injection e' with x1 x2
          subst x1 x2
          have HQ := Lib.hid hq; clear hq
          have hmn : m < n2 := by omega
          by_cases hle : y ≤ q
          · have hf2 := Lib.hid (hfin.out.trans (HI.out.order HX.out HQ.out hy hle))
            go_wp2_with fail
            refine (ref_In _ _ _ _).mono ?_; rw [hy]; rintro e w1 ⟨rfl, rfl⟩
            go_wp2_with fail
            go_ret
            exact ⟨ret_int (by rw [hf2.out]), b0⟩
          · have hnx := Lib.hid (HI.out.next HX.out HQ.out hy hle)
            go_wp2_with fail
            refine (ref_In _ _ _ _).mono ?_; rw [hy]; rintro e w1 ⟨rfl, rfl⟩
            go_wp2_with fail
            go_round
            case rel => exact ⟨m + 1 + 1, by omega, by go_num, hnx.out⟩
            case measure => simp [intOf]; omega
      · have hf2 := Lib.hid (hfin.out.trans (HI.out.range HX.out hy))
        go_wp2_with fail
        refine (ref_In _ _ _ _).mono ?_; rw [hy]; rintro e w1 ⟨rfl, rfl⟩
        go_wp2_with fail
        go_ret
        exact ⟨ret_int (by rw [hf2.out]), b0⟩
    · have hf2 := Lib.hid (hfin.out.trans (HI.out.last (by have := L2.out; omega)))
      go_wp2_with fail
      go_ret
      exact ⟨ret_int (by rw [hf2.out]), b0⟩
end Go.Proofs.Ytjpbkkoflaajcaa
