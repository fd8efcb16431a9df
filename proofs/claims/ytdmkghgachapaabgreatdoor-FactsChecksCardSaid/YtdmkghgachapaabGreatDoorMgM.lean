/- Several texts in one: Months2, Months3, Months4. -/
import Derived.Test.YtdmkghgachapaabGreatDoorMgB
import Derived.Test.YtdmkghgachapaabGreatDoorMgW
import Derived.Test.YtdmkghgachapaabGreatDoorName
set_option linter.unusedSimpArgs false
namespace Go.Proofs.YtdmkghgachapaabGreatDoor
set_option linter.unusedVariables false
set_option maxRecDepth 100000
open Go.RowKit
theorem lenB_cases (a b : Int) : (inB 0 400 a = true ∧ 0 ≤ a ∧ a ≤ 400) ∧ (inB 0 400 b = true ∧ 0 ≤ b ∧ b ≤ 400) ∨ (inB 0 400 a && inB 0 400 b) = false ∧ (inB 0 400 a = false ∧ ¬ (0 ≤ a ∧ a ≤ 400) ∨ (inB 0 400 a = true ∧ 0 ≤ a ∧ a ≤ 400) ∧ inB 0 400 b = false ∧ ¬ (0 ≤ b ∧ b ≤ 400)) := by
  rcases inB_cases 0 400 a with h | h <;> rcases inB_cases 0 400 b with k | k
  · exact .inl ⟨h, k⟩
  · exact .inr ⟨by rw [k.1, Bool.and_false], .inr ⟨h, k⟩⟩
  · exact .inr ⟨by rw [h.1, Bool.false_and], .inl h⟩
  · exact .inr ⟨by rw [h.1, Bool.false_and], .inl h⟩
def monthsGo : List ByteArray → Int → Int → List Mon → Int
  | _, a, b, [] => if a = 0 ∨ b = 0 then 8 else 0
  | seen, a, b, (s, f, g) :: l => if isName s = false then 5 else if (seen.any fun t => t.toList == s.toList) = true then 7 else if (inB 0 400 f && inB 0 400 g) = false then 3 else monthsGo (seen ++ [s]) (a + f) (b + g) l
theorem monthsGo_cons (seen : List ByteArray) (a b : Int) (s : ByteArray) (f g : Int) (l : List Mon) :
    monthsGo seen a b ((s, f, g) :: l) = if isName s = false then 5 else if (seen.any fun t => t.toList == s.toList) = true then 7 else if (inB 0 400 f && inB 0 400 g) = false then 3 else monthsGo (seen ++ [s]) (a + f) (b + g) l := by
  rw [monthsGo.eq_def]
def monthsErr (ms : List Mon) : Int := if ¬ (1 ≤ ms.length ∧ ms.length ≤ 20) then 2 else monthsGo [] 0 0 ms
def shortOf (ms : List Mon) : Int := (ms.map (·.2.1)).sum
def longOf (ms : List Mon) : Int := (ms.map (·.2.2)).sum
theorem drop_one {α : Type} {xs : List α} {k : Nat} {x : α} (h : xs[k]? = some x) : xs.drop k = x :: xs.drop (k + 1) := by
  obtain ⟨hl, rfl⟩ := List.getElem?_eq_some_iff.1 h
  exact List.drop_eq_getElem_cons hl
theorem take_one {α : Type} {xs : List α} {k : Nat} {x : α} (h : xs[k]? = some x) : xs.take (k + 1) = xs.take k ++ [x] := by
  obtain ⟨hl, rfl⟩ := List.getElem?_eq_some_iff.1 h
  exact List.take_succ_eq_append_getElem hl
theorem any_names (ms : List Mon) (s : ByteArray) : ((ms.map (·.1)).any fun t => t.toList == s.toList) = ms.any fun x => x.1.toList == s.toList := by
  rw [List.any_map]; rfl
theorem rule_isLength (x : Int) (w : World) : Calls Tryz.prog 138 #[.int .i64 x] w fun e w' => e = .returned (.bool (inB 0 400 x)) ∧ w = w' := by
  by_cases h1 : 0 ≤ x
  · by_cases h2 : x ≤ 400
    · have ho := Lib.hid (inB_yes h1 h2)
      go_enter Tryz.func138, Tryz.ntmps138
      go_wp2_with fail
      go_ret
      exact ⟨ret_bool (by rw [ho.out]), rfl⟩
    · have ho := Lib.hid (inB_no (l := 0) (h := 400) (x := x) (by omega))
      go_enter Tryz.func138, Tryz.ntmps138
      go_wp2_with fail
      go_ret
      exact ⟨ret_bool (by rw [ho.out]), rfl⟩
  · have ho := Lib.hid (inB_no (l := 0) (h := 400) (x := x) (by omega))
    go_enter Tryz.func138, Tryz.ntmps138
    go_wp2_with fail
    go_ret
    exact ⟨ret_bool (by rw [ho.out]), rfl⟩
def headErr (s : ByteArray) (f c : Int) : Int := if isName s = false then 5 else if (inB (-4000000) 4000000 f && inB 1 3000 c) = false then 3 else 0
theorem rule_Head (s : ByteArray) (f c : Int) (w : World) (hs : s.size ≤ 9223372036854775807) :
    Calls Tryz.prog 105 #[.string s, .int .i64 f, .int .i64 c] w fun e w' => e = .returned (.int .i64 (headErr s f c)) ∧ w = w' := by
  rcases Bool.eq_false_or_eq_true (isName s) with hn | hn
  case inr =>
    have ho := Lib.hid (show headErr s f c = 5 by rw [headErr, if_pos hn])
    go_enter Tryz.func105, Tryz.ntmps105
    go_wp2_with fail
    refine (rule_IsName _ _ hs).mono ?_; rw [hn]; rintro e w1 ⟨rfl, rfl⟩
    go_wp2_with fail
    go_ret
    exact ⟨ret_int (by rw [ho.out]), rfl⟩
  have hn' : ¬ isName s = false := by rw [hn]; simp
  rcases inB_cases (-4000000) 4000000 f with ⟨hf, f1, f2⟩ | ⟨hf, f1⟩
  case inr =>
    have ho := Lib.hid (show headErr s f c = 3 by rw [headErr, if_neg hn', hf]; rfl)
    clear hn'
    go_enter Tryz.func105, Tryz.ntmps105
    go_wp2_with fail
    refine (rule_IsName _ _ hs).mono ?_; rw [hn]; rintro e w1 ⟨rfl, rfl⟩
    go_wp2_with fail
    refine (line_Is _ _).mono ?_; rw [hf]; rintro e w1 ⟨rfl, rfl⟩
    go_wp2_with fail
    go_ret
    exact ⟨ret_int (by rw [ho.out]), rfl⟩
  have ho := Lib.hid (show headErr s f c = if inB 1 3000 c = false then 3 else 0 by rw [headErr, if_neg hn', hf, Bool.true_and])
  clear hn'
  by_cases c1 : 1 ≤ c
  · by_cases c2 : c ≤ 3000
    all_goals
      have hc := Lib.hid (show inB 1 3000 c = decide (c ≤ 3000) by unfold inB; simp [c1])
      go_enter Tryz.func105, Tryz.ntmps105
      go_wp2_with fail
      refine (rule_IsName _ _ hs).mono ?_; rw [hn]; rintro e w1 ⟨rfl, rfl⟩
      go_wp2_with fail
      refine (line_Is _ _).mono ?_; rw [hf]; rintro e w1 ⟨rfl, rfl⟩
      go_wp2_with fail
      go_ret
      exact ⟨ret_int (by rw [ho.out, hc.out]; simp [c2]), rfl⟩
  · have hc := Lib.hid (inB_no (l := 1) (h := 3000) (x := c) (by omega))
    go_enter Tryz.func105, Tryz.ntmps105
    go_wp2_with fail
    refine (rule_IsName _ _ hs).mono ?_; rw [hn]; rintro e w1 ⟨rfl, rfl⟩
    go_wp2_with fail
    refine (line_Is _ _).mono ?_; rw [hf]; rintro e w1 ⟨rfl, rfl⟩
    go_wp2_with fail
    go_ret
    exact ⟨ret_int (by rw [ho.out, hc.out]; rfl), rfl⟩
theorem months_closure (w : World) (s t : ByteArray) (f g : Int) (B : Nat) (hB : B < w.heap.size) (hc : w.cell? ⟨B, 0, none⟩ = some (.string t)) :
    Calls Tryz.prog 137 #[.agg #[.string s, .int .i64 f, .int .i64 g], .pointer (some ⟨B, 0, none⟩)] w fun e w' => e = .returned (.bool (s.toList == t.toList)) ∧ Below w.heap.size w w' := by
  have hne : B ≠ w.heap.size := by omega
  go_enter Tryz.func137, Tryz.ntmps137
  go_wp2_with fail
  go_ret
  exact ⟨rfl, by (repeat' (first | exact bxR _ _ | assumption | refine bxD ?_ | refine bxN ?_ _ | refine bxA ?_ _ | refine bxS ?_ ?_ _ | refine bxT ?_ (by assumption) | refine bxW ?_ (by assumption) | exact Nat.le_refl _ | omega | (simp; done) | (simp; omega)))⟩
def idxName (t : ByteArray) (ms : List Mon) (w : World) (e : Ending) (w' : World) : Prop :=
  ∃ i : Int, e = .returned (.int .i64 i) ∧ decide (0 ≤ i) = (ms.any fun x => x.1.toList == t.toList) ∧ Below w.heap.size w w'
set_option maxHeartbeats 1000000 in
theorem slices_IndexFunc_months (w : World) (a : Option Addr) (n c : Nat) (ms : List Mon) (t : ByteArray) (B : Nat) (h : Months w w.heap.size a n ms) (hB : B < w.heap.size) (hc : w.cell? ⟨B, 0, none⟩ = some (.string t)) :
    Calls Tryz.prog 157 #[.slice a n c, .func (.func 137) #[] #[.pointer (some ⟨B, 0, none⟩)]] w (idxName t ms w) := by
  have l1 := Lib.hid h.len
  have m1 := h.max
  have H := Lib.hid h; clear h
  have HC := Lib.hid hc; clear hc
  go_enter Tryz.func157, Tryz.ntmps157
  go_wp2_with fail
  go_loopw [5, 8] (fun _ i wr => ∃ k : Nat, k ≤ n ∧ i = .int .i64 k ∧ ((ms.take k).any fun x => x.1.toList == t.toList) = false ∧ Below w.heap.size w wr) (fun _ i _ => n - (intOf i).toNat)
  case atStart => exact ⟨0, by omega, rfl, by simp, Below.refl _ _⟩
  case round =>
    obtain ⟨k, hk, rfl, hall, hb⟩ := hrel
    have HA := Lib.hid hall; clear hall
    by_cases hlt : k < n
    · obtain ⟨b, off, rfl, hbB, hcs⟩ := (H.out.below hb (Nat.le_refl _)).open_ (by omega)
      obtain ⟨s, f, g, c0, c1, c2, hx, _⟩ := hcs k hlt
      clear hcs
      have HX := Lib.hid hx; clear hx
      have hcl := months_closure wr s t f g B (Nat.lt_of_lt_of_le hB hb.size) ((hb.cell (p := ⟨B, 0, none⟩) hB).trans HC.out)
      have hnext := Lib.hid (show ((ms.take (k + 1)).any fun x => x.1.toList == t.toList) = (s.toList == t.toList) by rw [take_one HX.out, List.any_append, HA.out]; simp)
      generalize (s.toList == t.toList) = bb at hcl hnext
      cases bb with
      | true =>
        go_wp2_with (go_at_call 137; refine hcl.mono ?_; rintro e w' ⟨rfl, hb'⟩)
        go_ret
        refine ⟨k, rfl, ?_, below_then hb hb'⟩
        rw [decide_eq_true (by omega), eq_comm, List.any_eq_true]
        obtain ⟨y, hy, hy2⟩ := List.any_eq_true.1 hnext.out
        exact ⟨y, List.mem_of_mem_take hy, hy2⟩
      | false =>
        go_wp2_with (go_at_call 137; refine hcl.mono ?_; rintro e w' ⟨rfl, hb'⟩)
        go_roundw
        case rel => exact ⟨k + 1, by omega, by go_num, hnext.out, below_then hb hb'⟩
        case measure => simp [intOf]; omega
    · have hkn : k = n := by omega
      subst hkn
      have hall := HA.out
      rw [List.take_of_length_le (by rw [l1.out]; exact Nat.le_refl _)] at hall
      have HA2 := Lib.hid hall; clear hall
      go_wp2_with fail
      go_ret
      exact ⟨-1, rfl, by rw [HA2.out]; rfl, hb⟩
theorem slices_ContainsFunc_months (w : World) (a : Option Addr) (n c : Nat) (ms : List Mon) (t : ByteArray) (B : Nat) (h : Months w w.heap.size a n ms) (hB : B < w.heap.size) (hc : w.cell? ⟨B, 0, none⟩ = some (.string t)) :
    Calls Tryz.prog 136 #[.slice a n c, .func (.func 137) #[] #[.pointer (some ⟨B, 0, none⟩)]] w fun e w' => e = .returned (.bool (ms.any fun x => x.1.toList == t.toList)) ∧ Below w.heap.size w w' := by
  have H := Lib.hid h; have HC := Lib.hid hc; clear h hc
  go_enter Tryz.func136, Tryz.ntmps136
  go_wp2_with fail
  refine (slices_IndexFunc_months _ _ _ _ _ _ _ H.out hB HC.out).mono ?_
  rintro e w1 ⟨i, rfl, hi, hb⟩
  have HI := Lib.hid hi; clear hi
  go_wp2_with fail
  go_ret
  exact ⟨ret_bool HI.out, hb⟩
end Go.Proofs.YtdmkghgachapaabGreatDoor

set_option linter.unusedSimpArgs false
namespace Go.Proofs.YtdmkghgachapaabGreatDoor
set_option linter.unusedVariables false
set_option maxRecDepth 100000
open Go.RowKit
theorem shortOf_snoc (ms : List Mon) (x : Mon) : shortOf (ms ++ [x]) = shortOf ms + x.2.1 := by simp [shortOf]
theorem longOf_snoc (ms : List Mon) (x : Mon) : longOf (ms ++ [x]) = longOf ms + x.2.2 := by simp [longOf]
def MonthsTo (ms : List Mon) (k : Nat) (a b : Int) : Prop :=
  a = shortOf (ms.take k) ∧ b = longOf (ms.take k) ∧ 0 ≤ a ∧ a ≤ 400 * k ∧ 0 ≤ b ∧ b ≤ 400 * k ∧ monthsGo ((ms.take k).map (·.1)) a b (ms.drop k) = monthsGo [] 0 0 ms
theorem MonthsTo.start (ms : List Mon) : MonthsTo ms 0 0 0 := ⟨by simp [shortOf], by simp [longOf], by omega, by omega, by omega, by omega, by simp⟩
theorem MonthsTo.name {ms : List Mon} {k : Nat} {a b : Int} {s : ByteArray} {f g : Int} (h : MonthsTo ms k a b) (hx : ms[k]? = some (s, f, g)) (hn : isName s = false) : monthsGo [] 0 0 ms = 5 := by
  rw [← h.2.2.2.2.2.2, drop_one hx, monthsGo_cons, if_pos hn]
theorem MonthsTo.twice {ms : List Mon} {k : Nat} {a b : Int} {s : ByteArray} {f g : Int} (h : MonthsTo ms k a b) (hx : ms[k]? = some (s, f, g)) (hn : isName s = true) (ht : ((ms.take k).any fun x => x.1.toList == s.toList) = true) : monthsGo [] 0 0 ms = 7 := by
  rw [← h.2.2.2.2.2.2, drop_one hx, monthsGo_cons, if_neg (by rw [hn]; simp), any_names, if_pos ht]
theorem MonthsTo.range {ms : List Mon} {k : Nat} {a b : Int} {s : ByteArray} {f g : Int} (h : MonthsTo ms k a b) (hx : ms[k]? = some (s, f, g)) (hn : isName s = true) (ht : ((ms.take k).any fun x => x.1.toList == s.toList) = false) (hr : (inB 0 400 f && inB 0 400 g) = false) : monthsGo [] 0 0 ms = 3 := by
  rw [← h.2.2.2.2.2.2, drop_one hx, monthsGo_cons, if_neg (by rw [hn]; simp), any_names, if_neg (by rw [ht]; simp), if_pos hr]
theorem MonthsTo.next {ms : List Mon} {k : Nat} {a b : Int} {s : ByteArray} {f g : Int} (h : MonthsTo ms k a b) (hx : ms[k]? = some (s, f, g)) (hn : isName s = true) (ht : ((ms.take k).any fun x => x.1.toList == s.toList) = false) (hf : inB 0 400 f = true) (hg : inB 0 400 g = true) : MonthsTo ms (k + 1) (a + f) (b + g) := by
  have hf' := inB_iff.1 hf
  have hg' := inB_iff.1 hg
  obtain ⟨h1, h2, h3, h4, h5, h6, h7⟩ := h
  refine ⟨by rw [take_one hx, shortOf_snoc, ← h1], by rw [take_one hx, longOf_snoc, ← h2], by omega, by omega, by omega, by omega, ?_⟩
  rw [← h7, drop_one hx, monthsGo_cons, if_neg (by rw [hn]; simp), any_names, if_neg (by rw [ht]; simp), if_neg (by rw [hf, hg]; simp), take_one hx, List.map_append]
  rfl
theorem MonthsTo.last {ms : List Mon} {k : Nat} {a b : Int} (h : MonthsTo ms k a b) (hk : ms.length ≤ k) : monthsGo [] 0 0 ms = if a = 0 ∨ b = 0 then 8 else 0 := by
  rw [← h.2.2.2.2.2.2, List.drop_eq_nil_of_le hk, monthsGo]
set_option maxHeartbeats 2000000 in
theorem rule_Months (w : World) (a : Option Addr) (n c : Nat) (ms : List Mon) (hnc : n ≤ c) (h : Months w w.heap.size a n ms) :
    Calls Tryz.prog 107 #[.slice a n c] w fun e w' => e = .returned (.int .i64 (monthsErr ms)) ∧ Below w.heap.size w w' := by
  have l1 := h.len
  have m1 := h.max
  by_cases hn : ¬ (1 ≤ n ∧ n ≤ 20)
  · have ho := Lib.hid (show monthsErr ms = 2 by rw [monthsErr, if_pos (by omega)])
    clear h l1
    have hn' : n < 1 ∨ 20 < n := by omega
    clear hn
    rcases hn' with hl | hl
    all_goals
      go_enter Tryz.func107, Tryz.ntmps107
      go_wp2_with fail
      go_ret
      exact ⟨ret_int (by rw [ho.out]), Below.refl _ _⟩
  have hn1 : 1 ≤ n := by omega
  have hn8 : n ≤ 20 := by omega
  have ho := Lib.hid (show monthsErr ms = monthsGo [] 0 0 ms by rw [monthsErr, if_neg (by omega)])
  clear hn
  have H := Lib.hid h; have L1 := Lib.hid l1; clear h l1
  go_enter Tryz.func107, Tryz.ntmps107
  go_wp2_with fail
  go_loopw [3, 4, 5, 6, 17] (fun p q _ _ i wr => ∃ (k : Nat) (A B : Int), k ≤ n ∧ i = .int .i64 k ∧ p = .int .i64 A ∧ q = .int .i64 B ∧ MonthsTo ms k A B ∧ Below w.heap.size w wr) (fun _ _ _ _ i _ => n - (intOf i).toNat)
  case atStart => exact ⟨0, 0, 0, by omega, rfl, rfl, rfl, MonthsTo.start ms, Below.refl _ _⟩
  case round =>
    obtain ⟨k, A, B, hk, rfl, rfl, rfl, hM, hb⟩ := hrel
    obtain ⟨A1, A2, B1, B2⟩ : 0 ≤ A ∧ A ≤ 400 * k ∧ 0 ≤ B ∧ B ≤ 400 * k := ⟨hM.2.2.1, hM.2.2.2.1, hM.2.2.2.2.1, hM.2.2.2.2.2.1⟩
    have HM := Lib.hid hM; clear hM
    by_cases hlt : k < n
    · obtain ⟨b, off, rfl, hbB, hcs⟩ := (H.out.below hb (Nat.le_refl _)).open_ (by omega)
      obtain ⟨s, f, g, c0, c1, c2, hx, hs, f1, f2, g1, g2⟩ := hcs k hlt
      have HX := Lib.hid hx
      clear hcs hx
      have hz := hb.size
      have hbz : b < wr.heap.size := by omega
      rcases Bool.eq_false_or_eq_true (isName s) with hnm | hnm
      case inr =>
        have hfin := Lib.hid (ho.out.trans (HM.out.name HX.out hnm))
        go_wp2_with fail
        refine (rule_IsName _ _ hs).mono ?_; rw [hnm]; rintro e w1 ⟨rfl, rfl⟩
        go_wp2_with fail
        go_ret
        exact ⟨ret_int (by rw [hfin.out]), below_new hb _⟩
      go_wp2_with fail
      refine (rule_IsName _ _ hs).mono ?_; rw [hnm]; rintro e w1 ⟨rfl, rfl⟩
      have a1 := At.new wr (.cells #[.string s, .int .i64 f, .int .i64 g] 128)
      have b1 := below_new hb (.cells #[.string s, .int .i64 f, .int .i64 g] 128)
      generalize World.alloc wr _ = W1 at a1 b1 ⊢
      have c5 := a1.cell 0
      simp at c5
      have hkc : k ≤ c := by omega
      clear c0 c1 c2
      go_wp2_with fail
      refine (slices_ContainsFunc_months _ _ k c (ms.take k) s wr.heap.size (((H.out.below b1 (Nat.le_refl _)).more b1.size).take hk) a1.lt c5).mono ?_
      obtain ⟨bb, hbb⟩ : ∃ bb, ((ms.take k).any fun x => x.1.toList == s.toList) = bb := ⟨_, rfl⟩
      rw [hbb]
      have HBB := Lib.hid hbb; clear hbb
      rintro e w2 ⟨rfl, hb2⟩
      replace a1 := a1.then_ hb2
      replace b1 := below_then b1 hb2
      clear hb2 c5
      cases bb with
      | true =>
        have hfin := Lib.hid (ho.out.trans (HM.out.twice HX.out hnm HBB.out))
        go_wp2_with fail
        go_ret
        exact ⟨ret_int (by rw [hfin.out]), b1⟩
      | false =>
        have c3 := a1.cell 1; have c4 := a1.cell 2
        simp at c3 c4
        rcases lenB_cases f g with ⟨⟨hf, p1, p2⟩, hg, p3, p4⟩ | ⟨hfg, hor⟩
        · have hnext := Lib.hid (HM.out.next HX.out hnm HBB.out hf hg)
          have t1 : IntKind.i64.wrap (A + f) = A + f := IntWalk.i64_in _ (by omega)
          have t2 : IntKind.i64.wrap (B + g) = B + g := IntWalk.i64_in _ (by omega)
          go_wp2_with fail
          refine (rule_isLength _ _).mono ?_; rw [hf]; rintro e w3 ⟨rfl, rfl⟩
          go_wp2_with fail
          refine (rule_isLength _ _).mono ?_; rw [hg]; rintro e w3 ⟨rfl, rfl⟩
          go_wp2_with fail
          go_quiet (fail)
          go_wp2_with fail
          go_roundw
          case rel => exact ⟨k + 1, A + f, B + g, by omega, by go_num, rfl, rfl, hnext.out, below_drewN b1 _⟩
          case measure => simp [intOf]; omega
        · have hfin := Lib.hid (ho.out.trans (HM.out.range HX.out hnm HBB.out hfg))
          rcases hor with ⟨hf, _⟩ | ⟨⟨hf, _⟩, hg, _⟩
          · go_wp2_with fail
            refine (rule_isLength _ _).mono ?_; rw [hf]; rintro e w3 ⟨rfl, rfl⟩
            go_wp2_with fail
            go_ret
            exact ⟨ret_int (by rw [hfin.out]), b1⟩
          · go_wp2_with fail
            refine (rule_isLength _ _).mono ?_; rw [hf]; rintro e w3 ⟨rfl, rfl⟩
            go_wp2_with fail
            refine (rule_isLength _ _).mono ?_; rw [hg]; rintro e w3 ⟨rfl, rfl⟩
            go_wp2_with fail
            go_ret
            exact ⟨ret_int (by rw [hfin.out]), b1⟩
    · have hfin := Lib.hid (ho.out.trans (HM.out.last (by have := L1.out; omega)))
      by_cases hA : A = 0
      · have hA' : (A == 0) = true := by simpa using hA
        go_wp2_with fail
        go_ret
        exact ⟨ret_int (by rw [hfin.out, if_pos (.inl hA)]), hb⟩
      · by_cases hB : B = 0
        · have hA' : (A == 0) = false := by simpa using hA
          have hB' : (B == 0) = true := by simpa using hB
          go_wp2_with fail
          go_ret
          exact ⟨ret_int (by rw [hfin.out, if_pos (.inr hB)]), hb⟩
        · have hA' : (A == 0) = false := by simpa using hA
          have hB' : (B == 0) = false := by simpa using hB
          go_wp2_with fail
          go_ret
          exact ⟨ret_int (by rw [hfin.out, if_neg (by omega)]), hb⟩
end Go.Proofs.YtdmkghgachapaabGreatDoor

set_option linter.unusedSimpArgs false
namespace Go.Proofs.YtdmkghgachapaabGreatDoor
set_option linter.unusedVariables false
set_option maxRecDepth 100000
open Go.RowKit
theorem pos_more {a f : Int} (h : 0 < a) (hf : 0 ≤ f) : decide (0 < a + f) = true := decide_eq_true (by omega)
theorem pos_first {a f : Int} (h0 : 0 ≤ a) (h : ¬ 0 < a) : decide (0 < a + f) = decide (0 < f) := by
  have : a = 0 := by omega
  subst this; simp
set_option maxHeartbeats 4000000 in
theorem ref_MonthsError (w : World) (a : Option Addr) (n c : Nat) (ms : List Mon) (h : Months w w.heap.size a n ms) :
    Calls Tryz.prog 117 #[.slice a n c] w fun e w' => e = .returned (.int .i64 (monthsErr ms)) ∧ Drawn w w' := by
  have l1 := h.len
  have m1 := h.max
  rcases inB_cases 1 20 (n : Int) with ⟨hb, hn1, hn8⟩ | ⟨hb, hn⟩
  case inr =>
    have ho := Lib.hid (show monthsErr ms = 2 by rw [monthsErr, if_pos (by omega)])
    clear h l1
    go_enter Tryz.func117, Tryz.ntmps117
    go_wp2_with fail
    refine (ref_In _ _ _ _).mono ?_; rw [hb]; rintro e w1 ⟨rfl, rfl⟩
    go_wp2_with fail
    go_ret
    exact ⟨ret_int (by rw [ho.out]), Drawn.refl _⟩
  have ho := Lib.hid (show monthsErr ms = monthsGo [] 0 0 ms by rw [monthsErr, if_neg (by omega)])
  have H := Lib.hid h; have L1 := Lib.hid l1; clear h l1
  go_enter Tryz.func117, Tryz.ntmps117
  go_wp2_with fail
  refine (ref_In _ _ _ _).mono ?_; rw [hb]; rintro e w1 ⟨rfl, rfl⟩
  clear hb
  go_wp2_with fail
  go_loopw [3, 4, 5, 6, 13] (fun p q _ _ i wr => ∃ (k : Nat) (A B : Int), k ≤ n ∧ i = .int .i64 k ∧ p = .bool (decide (0 < A)) ∧ q = .bool (decide (0 < B)) ∧ MonthsTo ms k A B ∧ Drawn w wr) (fun _ _ _ _ i _ => n - (intOf i).toNat)
  case atStart => exact ⟨0, 0, 0, by omega, rfl, rfl, rfl, MonthsTo.start ms, Drawn.refl _⟩
  case round =>
    obtain ⟨k, A, B, hk, rfl, rfl, rfl, hM, hd⟩ := hrel
    obtain ⟨A1, A2, B1, B2⟩ : 0 ≤ A ∧ A ≤ 400 * k ∧ 0 ≤ B ∧ B ≤ 400 * k := ⟨hM.2.2.1, hM.2.2.2.1, hM.2.2.2.2.1, hM.2.2.2.2.2.1⟩
    have HM := Lib.hid hM; clear hM
    obtain ⟨PA, hPA⟩ : ∃ x, x = decide (0 < A) := ⟨_, rfl⟩
    obtain ⟨PB, hPB⟩ : ∃ x, x = decide (0 < B) := ⟨_, rfl⟩
    rw [← hPA, ← hPB]
    have HPA := Lib.hid hPA; have HPB := Lib.hid hPB; clear hPA hPB
    by_cases hlt : k < n
    · obtain ⟨b, off, rfl, hbB, hcs⟩ := (H.out.below (hd.below w.heap.size) (Nat.le_refl _)).open_ (by omega)
      obtain ⟨s, f, g, c0, c1, c2, hx, hs, f1, f2, g1, g2⟩ := hcs k hlt
      have HX := Lib.hid hx
      have HCS := Lib.hid hcs
      clear hcs hx
      rcases Bool.eq_false_or_eq_true (isName s) with hnm | hnm
      case inr =>
        have hfin := Lib.hid (ho.out.trans (HM.out.name HX.out hnm))
        go_wp2_with fail
        refine (ref_Name _ _ hs).mono ?_; rw [hnm]; rintro e w1 ⟨rfl, rfl⟩
        go_wp2_with fail
        go_ret
        exact ⟨ret_int (by rw [hfin.out]), hd⟩
      go_wp2_with fail
      refine (ref_Name _ _ hs).mono ?_; rw [hnm]; rintro e w1 ⟨rfl, rfl⟩
      go_wp2_with fail
      go_loopw [6, 24] (fun _ i wi => ∃ j : Nat, j ≤ k ∧ i = .int .i64 j ∧ ((ms.take j).any fun x => x.1.toList == s.toList) = false ∧ Drawn wr wi) (fun _ i _ => k - (intOf i).toNat)
      case atStart => exact ⟨0, by omega, rfl, by simp, Drawn.refl _⟩
      case round =>
        obtain ⟨j, hj, rfl, hany, hdi⟩ := hrel
        have HANY := Lib.hid hany; clear hany
        obtain ⟨ni, rfl⟩ := hdi
        by_cases hjk : j < k
        · obtain ⟨s', f', g', c0', _, _, hx', _, _, _, _, _⟩ := HCS.out j (by omega)
          have HX' := Lib.hid hx'; clear hx'
          have hjn : j < n := by omega
          have hnext := Lib.hid (show ((ms.take (j + 1)).any fun x => x.1.toList == s.toList) = (s'.toList == s.toList) by rw [take_one HX'.out, List.any_append, HANY.out]; simp)
          obtain ⟨bb, hbb⟩ : ∃ bb, (s'.toList == s.toList) = bb := ⟨_, rfl⟩
          cases bb with
          | true =>
            have htw : ((ms.take k).any fun x => x.1.toList == s.toList) = true := by
              obtain ⟨y, hy, hy2⟩ := List.any_eq_true.1 (hnext.out.trans hbb)
              exact List.any_eq_true.2 ⟨y, (List.take_subset_take_left ms (by omega)) hy, hy2⟩
            have hfin := Lib.hid (ho.out.trans (HM.out.twice HX.out hnm htw))
            clear htw
            go_wp2_with fail
            go_quiet (fail)
            go_wp2_with fail
            go_ret
            exact ⟨ret_int (by rw [hfin.out]), by (repeat' (first | exact Drawn.refl _ | assumption | refine Drawn.drew ?_ | refine Drawn.drewN ?_ _ | exact ⟨_, rfl⟩))⟩
          | false =>
            have hnx := Lib.hid (hnext.out.trans hbb)
            go_wp2_with fail
            go_quiet (fail)
            go_wp2_with fail
            go_roundw
            case rel => exact ⟨j + 1, by omega, by go_num, hnx.out, ⟨_, rfl⟩⟩
            case measure => simp [intOf]; omega
        · have : j = k := by omega
          subst this
          rcases lenB_cases f g with ⟨⟨hf, p1, p2⟩, hg, p3, p4⟩ | ⟨hfg, hor⟩
          · have hnext := Lib.hid (HM.out.next HX.out hnm HANY.out hf hg)
            have hA := HPA.out
            have hB := HPB.out
            have eA : decide (0 < A + f) = (PA || decide (0 < f)) := by
              by_cases q : 0 < A
              · rw [hA, pos_more q p1, decide_eq_true q]; rfl
              · rw [hA, pos_first A1 q, decide_eq_false q]; rfl
            have eB : decide (0 < B + g) = (PB || decide (0 < g)) := by
              by_cases q : 0 < B
              · rw [hB, pos_more q p3, decide_eq_true q]; rfl
              · rw [hB, pos_first B1 q, decide_eq_false q]; rfl
            have EA := Lib.hid eA; have EB := Lib.hid eB
            clear hA hB eA eB HPA HPB
            cases PA <;> cases PB
            all_goals
              go_wp2_with fail
              refine (ref_In _ _ _ _).mono ?_; rw [hf]; rintro e w3 ⟨rfl, rfl⟩
              go_wp2_with fail
              refine (ref_In _ _ _ _).mono ?_; rw [hg]; rintro e w3 ⟨rfl, rfl⟩
              go_wp2_with fail
              go_quiet (fail)
              go_wp2_with fail
              go_roundw
              case rel => exact ⟨j + 1, A + f, B + g, by omega, by go_num, by rw [EA.out]; simp, by rw [EB.out]; simp, hnext.out, by (repeat' (first | exact Drawn.refl _ | assumption | refine Drawn.drew ?_ | refine Drawn.drewN ?_ _ | exact ⟨_, rfl⟩))⟩
              case measure => simp [intOf]; omega
          · have hfin := Lib.hid (ho.out.trans (HM.out.range HX.out hnm HANY.out hfg))
            rcases hor with ⟨hf, _⟩ | ⟨⟨hf, _⟩, hg, _⟩
            · go_wp2_with fail
              refine (ref_In _ _ _ _).mono ?_; rw [hf]; rintro e w3 ⟨rfl, rfl⟩
              go_wp2_with fail
              go_ret
              exact ⟨ret_int (by rw [hfin.out]), by (repeat' (first | exact Drawn.refl _ | assumption | refine Drawn.drew ?_ | refine Drawn.drewN ?_ _ | exact ⟨_, rfl⟩))⟩
            · go_wp2_with fail
              refine (ref_In _ _ _ _).mono ?_; rw [hf]; rintro e w3 ⟨rfl, rfl⟩
              go_wp2_with fail
              refine (ref_In _ _ _ _).mono ?_; rw [hg]; rintro e w3 ⟨rfl, rfl⟩
              go_wp2_with fail
              go_ret
              exact ⟨ret_int (by rw [hfin.out]), by (repeat' (first | exact Drawn.refl _ | assumption | refine Drawn.drew ?_ | refine Drawn.drewN ?_ _ | exact ⟨_, rfl⟩))⟩
    · have hfin := Lib.hid (ho.out.trans (HM.out.last (by have := L1.out; omega)))
      have hA := HPA.out
      have hB := HPB.out
      have hres := Lib.hid (show monthsErr ms = if (!PA || !PB) = true then 8 else 0 by
        rw [hfin.out, hA, hB]
        by_cases q : A = 0 ∨ B = 0
        · rw [if_pos q, if_pos (by rcases q with q | q <;> subst q <;> simp)]
        · rw [if_neg q, if_neg (by simp; omega)])
      clear hA hB HPA HPB hfin
      cases PA <;> cases PB
      all_goals
        go_wp2_with fail
        go_ret
        exact ⟨ret_int (by rw [hres.out]; rfl), hd⟩
end Go.Proofs.YtdmkghgachapaabGreatDoor
