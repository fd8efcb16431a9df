/- Contracts of pattern.Full and pattern.Check. -/
import Derived.Test.YtjjmbnflhldoeacPat3
namespace Go.Proofs.Ytjjmbnflhldoeac
set_option linter.unusedVariables false
set_option maxRecDepth 100000
open Go.RowKit Go.Shelf

def patErr (l : List UInt8) : Int := if 60 < l.length then 2 else match splitT 61 [] l with | none => 4 | some _ => 0
def patFull (l : List UInt8) : Bool := if 60 < l.length then false else match splitT 61 [] l with | none => false | some ps => fullB ps
theorem split_len : ∀ (m : Nat) (t l : List UInt8) (ps : List Pc), splitT m t l = some ps → ps.length ≤ 2 * l.length + 1
  | 0, t, l, ps, h => by cases h
  | m + 1, t, l, ps, h => by
    rw [splitT] at h
    have htx : ∀ x : List UInt8, (txt x).length ≤ 1 := by intro x; unfold txt; split <;> simp
    split at h
    · cases h
    split at h
    · cases h; have := htx (t ++ cutL l 123); omega
    split at h
    · cases h
    rename_i hb hk
    rw [Option.map_eq_some_iff] at h
    obtain ⟨q, hq, rfl⟩ := h
    have h1 := split_len m [] _ q hq
    have hB : cutB l 123 = true := by simpa using hb
    have hB2 : cutB (cutR l 123) 125 = true := by
      cases hc : cutB (cutR l 123) 125 with
      | true => rfl
      | false => exact absurd (.inl hc) hk
    have h2 := (cutR_len l 123).2 hB
    have h3 := (cutR_len (cutR l 123) 125).2 hB2
    have h4 := htx (t ++ cutL l 123)
    simp only [List.length_append, List.length_cons]
    omega
set_option maxHeartbeats 2000000 in
theorem pt_Check (l : List UInt8) (w : World) (hl : l.length ≤ 9223372036854775807) :
    Calls Try.prog 6 #[.string ⟨l.toArray⟩] w fun e w' => e = .returned (.int .i64 (patErr l)) ∧ Below w.heap.size w w' := by
  have HS := Lib.hid (pt_split l w hl)
  unfold patErr
  by_cases hb : 60 < l.length
  · rw [if_pos hb]
    have hs := HS.out
    rw [decide_eq_true hb] at hs
    unfold SplitPost at hs
    have HS2 := Lib.hid hs; clear hs hb HS
    go_enter Try.func6, Try.ntmps6
    go_wp2_with fail
    refine HS2.out.mono ?_
    rintro e w1 ⟨rfl, hb⟩
    have HB := Lib.hid hb; clear hb
    go_wp2_with fail
    go_ret
    exact ⟨rfl, HB.out⟩
  · rw [if_neg hb]
    have hs := HS.out
    rw [decide_eq_false hb] at hs
    clear HS hb
    cases hq : splitT 61 [] l with
    | none =>
      rw [hq] at hs
      unfold SplitPost at hs
      have HS2 := Lib.hid hs; clear hs hq
      go_enter Try.func6, Try.ntmps6
      go_wp2_with fail
      refine HS2.out.mono ?_
      rintro e w1 ⟨rfl, hb⟩
      have HB := Lib.hid hb; clear hb
      go_wp2_with fail
      go_ret
      exact ⟨rfl, HB.out⟩
    | some ps =>
      rw [hq] at hs
      unfold SplitPost at hs
      have HS2 := Lib.hid hs; clear hs hq
      go_enter Try.func6, Try.ntmps6
      go_wp2_with fail
      refine HS2.out.mono ?_
      rintro e w1 ⟨v, rfl, _, hb⟩
      have HB := Lib.hid hb; clear hb
      go_wp2_with fail
      go_ret
      exact ⟨rfl, HB.out⟩
set_option maxHeartbeats 2000000 in
theorem pt_Full (l : List UInt8) (w : World) (hl : l.length ≤ 9223372036854775807) :
    Calls Try.prog 4 #[.string ⟨l.toArray⟩] w fun e w' => e = .returned (.tuple #[.bool (patFull l), .int .i64 (patErr l)]) ∧ Below w.heap.size w w' := by
  have HS := Lib.hid (pt_split l w hl)
  unfold patErr patFull
  by_cases hb : 60 < l.length
  · rw [if_pos hb, if_pos hb]
    have hs := HS.out
    rw [decide_eq_true hb] at hs
    unfold SplitPost at hs
    have HS2 := Lib.hid hs; clear hs hb HS
    go_enter Try.func4, Try.ntmps4
    go_wp2_with fail
    refine HS2.out.mono ?_
    rintro e w1 ⟨rfl, hb⟩
    have HB := Lib.hid hb; clear hb
    go_wp2_with fail
    go_ret2
    exact ⟨rfl, HB.out⟩
  · rw [if_neg hb, if_neg hb]
    have hs := HS.out
    rw [decide_eq_false hb] at hs
    clear HS
    cases hq : splitT 61 [] l with
    | none =>
      rw [hq] at hs
      unfold SplitPost at hs
      have HS2 := Lib.hid hs; clear hs hq hb
      go_enter Try.func4, Try.ntmps4
      go_wp2_with fail
      refine HS2.out.mono ?_
      rintro e w1 ⟨rfl, hb⟩
      have HB := Lib.hid hb; clear hb
      go_wp2_with fail
      go_ret2
      exact ⟨rfl, HB.out⟩
    | some ps =>
      rw [hq] at hs
      unfold SplitPost at hs
      have HS2 := Lib.hid hs
      have HW := Lib.hid (split_well _ _ _ _ hq)
      have HL := Lib.hid (split_len _ _ _ _ hq)
      have HN := Lib.hid (show ps.length ≤ 1000 by have := HL.out; omega)
      clear hs hq hb
      go_enter Try.func4, Try.ntmps4
      go_wp2_with fail
      refine HS2.out.mono ?_
      rintro e w1 ⟨v, rfl, hown, hb⟩
      obtain ⟨a, c, rfl, _, _, hrows⟩ := own_parts hown rfl
      have HB := Lib.hid hb; have HRW := Lib.hid hrows; clear hb hrows hown
      go_wp2_with fail
      refine (pt_full _ ps a ps.length c HRW.out HW.out HN.out).mono ?_
      rintro e w2 ⟨rfl, hb⟩
      have HB2 := Lib.hid (below_then HB.out hb); clear hb
      go_wp2_with fail
      go_ret2
      exact ⟨rfl, HB2.out⟩
end Go.Proofs.Ytjjmbnflhldoeac
