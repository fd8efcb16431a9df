/- Contracts of pattern.kind, pattern.joins; the library's Contains and HasPrefix. -/
import Derived.Test.YtjjmbnflhldoeacPat0
import Derived.Test.YtjjmbnflhldoeacTxt1
import Derived.Test.YtjjmbnflhldoeacLayPat
namespace Go.Proofs.Ytjjmbnflhldoeac
set_option linter.unusedVariables false
set_option maxRecDepth 100000
open Go.RowKit Go.Shelf

theorem pt_size (l : List UInt8) : (⟨l.toArray⟩ : ByteArray).size = l.length := by show l.toArray.size = _; simp
theorem pt_list (l : List UInt8) : (⟨l.toArray⟩ : ByteArray).toList = l := by rw [str_list]
theorem lib_Contains (l : List UInt8) (c : UInt8) (w : World) : Calls Try.prog 13 #[.string ⟨l.toArray⟩, .string ⟨#[c]⟩] w fun e w' => e = .returned (.bool (cutB l c)) ∧ w = w' := by
  refine (Any.strings_Contains_one Try.laysn144 ⟨l.toArray⟩ c w).mono ?_
  rintro e w' ⟨rfl, rfl⟩
  have : decide (0 ≤ Lib.indexByte l c) = cutB l c := by
    rw [cut_index]
    cases cutB l c
    · rfl
    · rw [if_pos rfl]; simp
  exact ⟨ret_bool this, rfl⟩
theorem lib_HasPrefix (s p : ByteArray) (w : World) : Calls Try.prog 10 #[.string s, .string p] w fun e w' => e = .returned (.bool (p.data.toList.isPrefixOf s.data.toList)) ∧ w = w' :=
  (Any.strings_HasPrefix Try.laysn99 s p w).mono fun e w' ⟨he, hw⟩ => ⟨he, hw.symm⟩
theorem beq_pos {l m : List UInt8} (h : l = m) : ((⟨l.toArray⟩ : ByteArray).toList == m) = true := by rw [pt_list, h]; simp
theorem beq_neg {l m : List UInt8} (h : ¬ l = m) : ((⟨l.toArray⟩ : ByteArray).toList == m) = false := by rw [pt_list]; simpa using h
set_option maxHeartbeats 4000000 in
theorem pt_kind (l : List UInt8) (w : World) : Calls Try.prog 14 #[.string ⟨l.toArray⟩] w fun e w' => e = .returned (.tuple #[.int .i64 (kindOf l).1, .int .i64 (kindOf l).2]) ∧ w = w' := by
  by_cases h1 : l = [121]
  · subst h1; go_enter Try.func14, Try.ntmps14; go_wp2_with fail; go_ret2; exact ⟨rfl, rfl⟩
  by_cases h2 : l = [109]
  · subst h2; go_enter Try.func14, Try.ntmps14; go_wp2_with fail; go_ret2; exact ⟨rfl, rfl⟩
  by_cases h3 : l = [100]
  · subst h3; go_enter Try.func14, Try.ntmps14; go_wp2_with fail; go_ret2; exact ⟨rfl, rfl⟩
  by_cases h4 : l = [121, 52]
  · subst h4; go_enter Try.func14, Try.ntmps14; go_wp2_with fail; go_ret2; exact ⟨rfl, rfl⟩
  by_cases h5 : l = [109, 50]
  · subst h5; go_enter Try.func14, Try.ntmps14; go_wp2_with fail; go_ret2; exact ⟨rfl, rfl⟩
  by_cases h6 : l = [100, 50]
  · subst h6; go_enter Try.func14, Try.ntmps14; go_wp2_with fail; go_ret2; exact ⟨rfl, rfl⟩
  by_cases h7 : l = [110, 97, 109, 101]
  · subst h7; go_enter Try.func14, Try.ntmps14; go_wp2_with fail; go_ret2; exact ⟨rfl, rfl⟩
  by_cases h8 : l = [119]
  · subst h8; go_enter Try.func14, Try.ntmps14; go_wp2_with fail; go_ret2; exact ⟨rfl, rfl⟩
  have e : kindOf l = (0, 0) := by unfold kindOf; simp [h1, h2, h3, h4, h5, h6, h7, h8]
  have HE := Lib.hid e
  have b1 := beq_neg h1; have b2 := beq_neg h2; have b3 := beq_neg h3; have b4 := beq_neg h4; have b5 := beq_neg h5; have b6 := beq_neg h6; have b7 := beq_neg h7; have b8 := beq_neg h8
  obtain ⟨s, hs⟩ : ∃ s : ByteArray, s = ⟨l.toArray⟩ := ⟨_, rfl⟩
  rw [← hs] at b1 b2 b3 b4 b5 b6 b7 b8 ⊢
  clear h1 h2 h3 h4 h5 h6 h7 h8 e hs
  go_enter Try.func14, Try.ntmps14
  go_wp2_with fail
  go_ret2
  exact ⟨by rw [HE.out]; rfl, rfl⟩
theorem joins_int (c : UInt8) : joinsB c = (decide ((c.toNat : Int) = 45) || (decide (97 ≤ (c.toNat : Int) ∧ (c.toNat : Int) ≤ 122)) || (decide (65 ≤ (c.toNat : Int) ∧ (c.toNat : Int) ≤ 90)) || (decide (48 ≤ (c.toNat : Int) ∧ (c.toNat : Int) ≤ 57)) || decide (127 < (c.toNat : Int))) := by
  have h45 : (c == 45) = decide ((c.toNat : Int) = 45) := by
    rw [Bool.eq_iff_iff]
    constructor
    · intro h; have : c = 45 := by simpa using h
      subst this; rfl
    · intro h
      have h2 : (c.toNat : Int) = 45 := by simpa using h
      have : UInt8.ofNat c.toNat = UInt8.ofNat 45 := by rw [show c.toNat = 45 by omega]
      simpa using this
  unfold joinsB
  rw [h45, Bool.eq_iff_iff]
  simp only [Bool.or_eq_true, Bool.and_eq_true, decide_eq_true_eq]
  omega
set_option maxHeartbeats 4000000 in
theorem pt_joins (c : UInt8) (w : World) : Calls Try.prog 15 #[.int .u8 (c.toNat : Int)] w fun e w' => e = .returned (.bool (joinsB c)) ∧ w = w' := by
  rw [joins_int]
  have h0 : (0 : Int) ≤ c.toNat := by omega
  have h9 : (c.toNat : Int) ≤ 255 := by have := c.toNat_lt; omega
  obtain ⟨n, hn⟩ : ∃ n : Int, n = (c.toNat : Int) := ⟨_, rfl⟩
  rw [← hn] at h0 h9 ⊢
  clear hn
  obtain ⟨R, hR⟩ : ∃ R, R = (decide (n = 45) || (decide (97 ≤ n ∧ n ≤ 122)) || (decide (65 ≤ n ∧ n ≤ 90)) || (decide (48 ≤ n ∧ n ≤ 57)) || decide (127 < n)) := ⟨_, rfl⟩
  rw [← hR]
  have hc : (n < 45) ∨ n = 45 ∨ (45 < n ∧ n < 48) ∨ (48 ≤ n ∧ n ≤ 57) ∨ (57 < n ∧ n < 65) ∨ (65 ≤ n ∧ n ≤ 90) ∨ (90 < n ∧ n < 97) ∨ (97 ≤ n ∧ n ≤ 122) ∨ (122 < n ∧ n ≤ 127) ∨ 127 < n := by omega
  have HRR : (n = 45 ∨ (97 ≤ n ∧ n ≤ 122) ∨ (65 ≤ n ∧ n ≤ 90) ∨ (48 ≤ n ∧ n ≤ 57) ∨ 127 < n) ↔ R = true := by
    rw [hR]; simp only [Bool.or_eq_true, decide_eq_true_eq]; omega
  have HR := Lib.hid HRR; clear hR HRR
  rcases hc with h | h | ⟨h, h'⟩ | ⟨h, h'⟩ | ⟨h, h'⟩ | ⟨h, h'⟩ | ⟨h, h'⟩ | ⟨h, h'⟩ | ⟨h, h'⟩ | h
  case inr.inl =>
    have hr : R = true := HR.out.1 (by omega)
    subst h
    have HQ := Lib.hid hr; clear hr HR
    go_enter Try.func15, Try.ntmps15
    go_wp2_with fail
    go_ret
    exact ⟨ret_bool HQ.out.symm, rfl⟩
  all_goals
    have e45 : (n == 45) = false := by simp; omega
    first
      | (have hr : R = true := HR.out.1 (by omega)
         have HQ := Lib.hid hr; clear hr HR
         go_enter Try.func15, Try.ntmps15
         go_wp2_with fail
         go_ret
         first | exact ⟨ret_bool HQ.out.symm, rfl⟩ | exact ⟨ret_bool (by rw [HQ.out]; simp; omega), rfl⟩)
      | (have hr : R = false := by
           cases R with
           | true => have := HR.out.2 rfl; omega
           | false => rfl
         have HQ := Lib.hid hr; clear hr HR
         go_enter Try.func15, Try.ntmps15
         go_wp2_with fail
         go_ret
         first | exact ⟨ret_bool HQ.out.symm, rfl⟩ | exact ⟨ret_bool (by rw [HQ.out]; simp; omega), rfl⟩)
end Go.Proofs.Ytjjmbnflhldoeac
