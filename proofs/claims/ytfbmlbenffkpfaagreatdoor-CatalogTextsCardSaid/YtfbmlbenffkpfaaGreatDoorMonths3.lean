/- Contracts of rule.Months and of the reference's MonthsError. -/
import Derived.Test.YtfbmlbenffkpfaaGreatDoorMonths2
namespace Go.Proofs.YtfbmlbenffkpfaaGreatDoor
set_option linter.unusedVariables false
set_option maxRecDepth 100000
open Go.RowKit

theorem shortOf_snoc (ms : List Mon) (x : Mon) : shortOf (ms ++ [x]) = shortOf ms + x.2.1 := by simp [shortOf]
theorem longOf_snoc (ms : List Mon) (x : Mon) : longOf (ms ++ [x]) = longOf ms + x.2.2 := by simp [longOf]
/-- What is known where k months are in order. -/
def MonthsTo (ms : List Mon) (k : Nat) (a b : Int) : Prop :=
  a = shortOf (ms.take k) ∧ b = longOf (ms.take k) ∧ 0 ≤ a ∧ a ≤ 400 * k ∧ 0 ≤ b ∧ b ≤ 400 * k ∧ monthsGo ((ms.take k).map (·.1)) a b (ms.drop k) = monthsGo [] 0 0 ms
theorem MonthsTo.start (ms : List Mon) : MonthsTo ms 0 0 0 := ⟨by simp [shortOf], by simp [longOf], by omega, by omega, by omega, by omega, by simp⟩
theorem MonthsTo.name {ms : List Mon} {k : Nat} {a b : Int} {s : ByteArray} {f g : Int} (h : MonthsTo ms k a b) (hx : ms[k]? = some (s, f, g)) (hn : isName s = false) : monthsGo [] 0 0 ms = 5 := by
  rw [← h.2.2.2.2.2.2, drop_one hx, monthsGo_cons, if_pos hn]
theorem MonthsTo.twice {ms : List Mon} {k : Nat} {a b : Int} {s : ByteArray} {f g : Int} (h : MonthsTo ms k a b) (hx : ms[k]? = some (s, f, g)) (hn : isName s = true) (ht : ((ms.take k).any fun x => x.1.toList == s.toList) = true) : monthsGo [] 0 0 ms = 7 := by
  rw [← h.2.2.2.2.2.2, drop_one hx, monthsGo_cons, if_neg (by rw [hn]; simp), any_names, if_pos ht]
theorem MonthsTo.range {ms : List Mon} {k : Nat} {a b : Int} {s : ByteArray} {f g : Int} (h : MonthsTo ms k a b) (hx : ms[k]? = some (s, f, g)) (hn : isName s = true) (ht : ((ms.take k).any fun x => x.1.toList == s.toList) = false) (hr : (inB 0 400 f && inB 0 400 g) = false) : monthsGo [] 0 0 ms = 3 := by
  rw [← h.2.2.2.2.2.2, drop_one hx, monthsGo_cons, if_neg (by rw [hn]; simp), any_names, if_neg (by rw [ht]; simp), if_pos hr]
theorem MonthsTo.next {ms : List Mon} {k : Nat} {a b : Int} {s : ByteArray} {f g : Int} (h : MonthsTo ms k a b) (hx : ms[k]? = some (s, f, g)) (hn : isName s = true) (ht : ((ms.take k).any fun x => x.1.toList == s.toList) = false) (hf : inB 0 400 f = true) (hg : inB 0 400 g = true) : MonthsTo ms (k + 1) (a + f) (b + g) := by
  have hf' := inB_iff.1 hf
  have hg' := inB_iff.1 hg
  obtain ⟨h1, h2, h3, h4, h5, h6, h7⟩ := h
  refine ⟨by rw [take_one hx, shortOf_snoc, ← h1], by rw [take_one hx, longOf_snoc, ← h2], by omega, by omega, by omega, by omega, ?_⟩
  rw [← h7, drop_one hx, monthsGo_cons, if_neg (by rw [hn]; simp), any_names, if_neg (by rw [ht]; simp), if_neg (by rw [hf, hg]; simp), take_one hx, List.map_append]
  rfl
theorem MonthsTo.last {ms : List Mon} {k : Nat} {a b : Int} (h : MonthsTo ms k a b) (hk : ms.length ≤ k) : monthsGo [] 0 0 ms = if a = 0 ∨ b = 0 then 8 else 0 := by
  rw [← h.2.2.2.2.2.2, List.drop_eq_nil_of_le hk, monthsGo]

set_option maxHeartbeats 2000000 in
theorem rule_Months (w : World) (a : Option Addr) (n c : Nat) (ms : List Mon) (hnc : n ≤ c) (h : Months w w.heap.size a n ms) :
    Calls Tryz.prog 96 #[.slice a n c] w fun e w' => e = .returned (.int .i64 (monthsErr ms)) ∧ Below w.heap.size w w' := by
  have l1 := h.len
  have m1 := h.max
  by_cases hn : ¬ (1 ≤ n ∧ n ≤ 20)
  · have ho := Lib.hid (show monthsErr ms = 2 by rw [monthsErr, if_pos (by omega)])
    clear h l1
    have hn' : n < 1 ∨ 20 < n := by omega
    clear hn
    rcases hn' with hl | hl
    all_goals
      go_enter Tryz.func96, Tryz.ntmps96
      go_wp2_with fail
      go_ret
      exact ⟨ret_int (by rw [ho.out]), Below.refl _ _⟩
  have hn1 : 1 ≤ n := by omega
  have hn8 : n ≤ 20 := by omega
  have ho := Lib.hid (show monthsErr ms = monthsGo [] 0 0 ms by rw [monthsErr, if_neg (by omega)])
  clear hn
  have H := Lib.hid h; have L1 := Lib.hid l1; clear h l1
  go_enter Tryz.func96, Tryz.ntmps96
  go_wp2_with fail
  go_loopw [3, 4, 5, 6, 17] (fun p q _ _ i wr => ∃ (k : Nat) (A B : Int), k ≤ n ∧ i = .int .i64 k ∧ p = .int .i64 A ∧ q = .int .i64 B ∧ MonthsTo ms k A B ∧ Below w.heap.size w wr) (fun _ _ _ _ i _ => n - (intOf i).toNat)
  case atStart => exact ⟨0, 0, 0, by omega, rfl, rfl, rfl, MonthsTo.start ms, Below.refl _ _⟩
  case round =>
    obtain ⟨k, A, B, hk, rfl, rfl, rfl, hM, hb⟩ := hrel
    obtain ⟨A1, A2, B1, B2⟩ : 0 ≤ A ∧ A ≤ 400 * k ∧ 0 ≤ B ∧ B ≤ 400 * k := ⟨hM.2.2.1, hM.2.2.2.1, hM.2.2.2.2.1, hM.2.2.2.2.2.1⟩
    have HM := Lib.hid hM; clear hM
    by_cases hlt : k < n
    · obtain ⟨b, off, rfl, hbB, hcs⟩ := (H.out.below hb (Nat.le_refl _)).open_ (by omega)
      obtain ⟨s, f, g, c0, c1, c2, hx, hs, f1, f2, g1, g2⟩ := hcs k hlt
      have HX := Lib.hid hx
      clear hcs hx
      have hz := hb.size
      have hbz : b < wr.heap.size := by omega
      rcases Bool.eq_false_or_eq_true (isName s) with hnm | hnm
      case inr =>
        have hfin := Lib.hid (ho.out.trans (HM.out.name HX.out hnm))
        go_wp2_with fail
        refine (rule_IsName _ _ hs).mono ?_; rw [hnm]; rintro e w1 ⟨rfl, rfl⟩
        go_wp2_with fail
        go_ret
        exact ⟨ret_int (by rw [hfin.out]), below_new hb _⟩
      go_wp2_with fail
      refine (rule_IsName _ _ hs).mono ?_; rw [hnm]; rintro e w1 ⟨rfl, rfl⟩
      have a1 := At.new wr (.cells #[.string s, .int .i64 f, .int .i64 g] 103)
      have b1 := below_new hb (.cells #[.string s, .int .i64 f, .int .i64 g] 103)
      generalize World.alloc wr _ = W1 at a1 b1 ⊢
      have c5 := a1.cell 0
      simp at c5
      have hkc : k ≤ c := by omega
      clear c0 c1 c2
      go_wp2_with fail
      refine (slices_ContainsFunc_months _ _ k c (ms.take k) s wr.heap.size (((H.out.below b1 (Nat.le_refl _)).more b1.size).take hk) a1.lt c5).mono ?_
      obtain ⟨bb, hbb⟩ : ∃ bb, ((ms.take k).any fun x => x.1.toList == s.toList) = bb := ⟨_, rfl⟩
      rw [hbb]
      have HBB := Lib.hid hbb; clear hbb
      rintro e w2 ⟨rfl, hb2⟩
      replace a1 := a1.then_ hb2
      replace b1 := below_then b1 hb2
      clear hb2 c5
      cases bb with
      | true =>
        have hfin := Lib.hid (ho.out.trans (HM.out.twice HX.out hnm HBB.out))
        go_wp2_with fail
        go_ret
        exact ⟨ret_int (by rw [hfin.out]), b1⟩
      | false =>
        have c3 := a1.cell 1; have c4 := a1.cell 2
        simp at c3 c4
        rcases lenB_cases f g with ⟨⟨hf, p1, p2⟩, hg, p3, p4⟩ | ⟨hfg, hor⟩
        · have hnext := Lib.hid (HM.out.next HX.out hnm HBB.out hf hg)
          have t1 : IntKind.i64.wrap (A + f) = A + f := IntWalk.i64_in _ (by omega)
          have t2 : IntKind.i64.wrap (B + g) = B + g := IntWalk.i64_in _ (by omega)
          go_wp2_with fail
          refine (rule_isLength _ _).mono ?_; rw [hf]; rintro e w3 ⟨rfl, rfl⟩
          go_wp2_with fail
          refine (rule_isLength _ _).mono ?_; rw [hg]; rintro e w3 ⟨rfl, rfl⟩
          go_wp2_with fail
          go_quiet (fail)
          go_wp2_with fail
          go_roundw
          case rel => exact ⟨k + 1, A + f, B + g, by omega, by go_num, rfl, rfl, hnext.out, below_drewN b1 _⟩
          case measure => simp [intOf]; omega
        · have hfin := Lib.hid (ho.out.trans (HM.out.range HX.out hnm HBB.out hfg))
          rcases hor with ⟨hf, _⟩ | ⟨⟨hf, _⟩, hg, _⟩
          · go_wp2_with fail
            refine (rule_isLength _ _).mono ?_; rw [hf]; rintro e w3 ⟨rfl, rfl⟩
            go_wp2_with fail
            go_ret
            exact ⟨ret_int (by rw [hfin.out]), b1⟩
          · go_wp2_with fail
            refine (rule_isLength _ _).mono ?_; rw [hf]; rintro e w3 ⟨rfl, rfl⟩
            go_wp2_with fail
            refine (rule_isLength _ _).mono ?_; rw [hg]; rintro e w3 ⟨rfl, rfl⟩
            go_wp2_with fail
            go_ret
            exact ⟨ret_int (by rw [hfin.out]), b1⟩
    · have hfin := Lib.hid (ho.out.trans (HM.out.last (by have := L1.out; omega)))
      by_cases hA : A = 0
      · have hA' : (A == 0) = true := by simpa using hA
        go_wp2_with fail
        go_ret
        exact ⟨ret_int (by rw [hfin.out, if_pos (.inl hA)]), hb⟩
      · by_cases hB : B = 0
        · have hA' : (A == 0) = false := by simpa using hA
          have hB' : (B == 0) = true := by simpa using hB
          go_wp2_with fail
          go_ret
          exact ⟨ret_int (by rw [hfin.out, if_pos (.inr hB)]), hb⟩
        · have hA' : (A == 0) = false := by simpa using hA
          have hB' : (B == 0) = false := by simpa using hB
          go_wp2_with fail
          go_ret
          exact ⟨ret_int (by rw [hfin.out, if_neg (by omega)]), hb⟩
end Go.Proofs.YtfbmlbenffkpfaaGreatDoor
