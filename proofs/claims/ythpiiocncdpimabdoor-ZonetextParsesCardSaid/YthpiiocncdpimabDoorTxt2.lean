/- Contract of the reference's Plain: the number that a text writes. -/
import Derived.Test.YthpiiocncdpimabDoorTxt1
namespace Go.Proofs.YthpiiocncdpimabDoor
set_option linter.unusedVariables false
set_option linter.unusedSimpArgs false
set_option maxRecDepth 100000
open Go.RowKit Go.Shelf Num

theorem trim_bare (l : List UInt8) : Lib.trimPrefix l [45] = bare l := by
  unfold Lib.trimPrefix Lib.hasPrefix bare minusOf
  cases l with
  | nil => rfl
  | cons c r =>
    by_cases h : c = 45
    · subst h; simp
    · have h1 : (c == (45 : UInt8)) = false := by simpa using h
      have h2 : ((45 : UInt8) == c) = false := by simpa using fun e => h e.symm
      simp [List.isPrefixOf, h1, h2]
theorem natOf_take (t : ByteArray) (k : Nat) (h : k < t.size) : natOf (t.data.toList.take (k + 1)) = 10 * natOf (t.data.toList.take k) + (t[k].toNat - 48) := by
  rw [str_take t k h, natOf_snoc]
theorem natOf_take_lt {t : ByteArray} (hd : t.data.toList.all isDig = true) (k : Nat) (hk : k ≤ 17) : natOf (t.data.toList.take k) < 100000000000000001 := by
  have h1 := natOf_lt17 (l := t.data.toList.take k) fun c hc => List.all_eq_true.1 hd c (List.mem_of_mem_take hc)
  have h2 : (t.data.toList.take k).length ≤ 17 := by rw [List.length_take]; omega
  have h3 : 10 ^ (t.data.toList.take k).length ≤ 10 ^ 17 := Nat.pow_le_pow_right (by omega) h2
  omega
theorem plain_no {l : List UInt8} (h : plainOk l = false) : plainNum l = 0 := by unfold plainNum; rw [h]; rfl
def plainRes (l : List UInt8) : Value := .tuple #[.int .i64 (plainNum l), .bool (plainOk l)]

set_option maxHeartbeats 4000000 in
theorem ref_Plain (s : ByteArray) (w : World) (hs : s.size ≤ 9223372036854775806) :
    Calls Tryd.prog 17 #[.string s] w fun e w' => e = .returned (plainRes s.data.toList) ∧ w = w' := by
  obtain ⟨t, ht⟩ : ∃ t : ByteArray, t = ⟨(bare s.data.toList).toArray⟩ := ⟨_, rfl⟩
  have htl : t.data.toList = bare s.data.toList := by rw [ht]
  have hts : t.size ≤ s.size := by
    rw [← str_len t, htl, ← str_len s]; unfold bare; split
    · simp
    · exact Nat.le_refl _
  have HTP := Lib.hid (show (⟨(Lib.trimPrefix s.data.toList [45]).toArray⟩ : ByteArray) = t by rw [trim_bare, ht])
  have HE : (t.data.toList == s.data.toList) = !minusOf s.data.toList := by
    rw [htl]; unfold bare
    cases hm : minusOf s.data.toList
    · simp
    · cases hq : s.data.toList with
      | nil => rw [hq] at hm; cases hm
      | cons c r =>
        show (r == c :: r) = false
        rw [beq_eq_false_iff_ne]; intro h
        have := congrArg List.length h
        simp at this
  have HTL := Lib.hid htl
  have HEQ := Lib.hid HE
  clear ht htl HE
  by_cases hd : digitsB t.data.toList = true
  · by_cases hl : t.size ≤ 17
    · by_cases h45 : (s.data.toList == [45, 48]) = true
      · have e1 : (s.toList == [45, 48]) = true := by rw [str_list]; exact h45
        have hn : plainOk s.data.toList = false := by unfold plainOk; rw [h45]; simp
        have HR := Lib.hid (show plainRes s.data.toList = .tuple #[.int .i64 0, .bool false] by unfold plainRes; rw [plain_no hn, hn])
        clear hn h45
        go_enter Tryd.func17, Tryd.ntmps17
        go_wp2_with fail
        refine (Any.strings_TrimPrefix Tryd.laysn101 s ⟨#[45]⟩ _).mono ?_
        rw [show (⟨#[45]⟩ : ByteArray).data.toList = [45] from rfl, HTP.out]
        rintro e w' ⟨rfl, rfl⟩
        go_wp2_with fail
        refine (ref_digits t _ (by omega)).mono ?_
        rw [hd]
        rintro e w' ⟨rfl, rfl⟩
        go_wp2_with fail
        go_ret2
        exact ⟨by rw [HR.out]; rfl, rfl⟩
      · have h45' : (s.data.toList == [45, 48]) = false := by simpa using h45
        have e1 : (s.toList == [45, 48]) = false := by rw [str_list]; exact h45'
        have hall : t.data.toList.all isDig = true := by
          unfold digitsB at hd; rw [Bool.and_eq_true] at hd; exact hd.2
        have hok : plainOk s.data.toList = true := by
          unfold plainOk; rw [h45', ← HTL.out, hd]
          have : t.data.toList.length ≤ 17 := by rw [str_len]; exact hl
          rw [decide_eq_true this]; rfl
        have HR := Lib.hid (show plainRes s.data.toList = .tuple #[.int .i64 (if minusOf s.data.toList then -(natOf t.data.toList : Int) else (natOf t.data.toList : Int)), .bool true] by
          unfold plainRes plainNum; rw [hok, HTL.out]; rfl)
        have HALL := Lib.hid hall
        clear hok h45 h45' hall
        go_enter Tryd.func17, Tryd.ntmps17
        go_wp2_with fail
        refine (Any.strings_TrimPrefix Tryd.laysn101 s ⟨#[45]⟩ _).mono ?_
        rw [show (⟨#[45]⟩ : ByteArray).data.toList = [45] from rfl, HTP.out]
        rintro e w' ⟨rfl, rfl⟩
        go_wp2_with fail
        refine (ref_digits t _ (by omega)).mono ?_
        rw [hd]
        rintro e w' ⟨rfl, rfl⟩
        clear hd
        go_wp2_with fail
        go_loop [5, 23] (fun n i => ∃ k : Nat, k ≤ t.size ∧ i = .int .i64 k ∧ n = .int .i64 (natOf (t.data.toList.take k))) (fun _ i => t.size - (intOf i).toNat)
        case atStart => exact ⟨0, Nat.zero_le _, rfl, rfl⟩
        case round =>
          obtain ⟨k, hk, rfl, rfl⟩ := hrel
          have hlt17 := natOf_take_lt HALL.out k (by omega)
          obtain ⟨a, ha⟩ : ∃ a, a = natOf (t.data.toList.take k) := ⟨_, rfl⟩
          rw [← ha] at hlt17 ⊢
          have b0 : (a : Int) ≤ 100000000000000000 := by omega
          have b1 : (0 : Int) ≤ (a : Int) := by omega
          have HA := Lib.hid ha; clear ha
          by_cases hlt : k < t.size
          · have HN := Lib.hid (natOf_take t k hlt)
            have hdig : isDig t[k] = true := List.all_eq_true.1 HALL.out _ (List.mem_of_getElem? (str_get t k hlt))
            rw [dig_int] at hdig
            obtain ⟨d1, d2⟩ : 48 ≤ (t[k].toNat : Int) ∧ (t[k].toNat : Int) ≤ 57 := by simpa using hdig
            clear hdig
            go_wp2_with fail
            go_round
            case rel => exact ⟨k + 1, by omega, by go_num, by rw [HN.out, ← HA.out]; first | go_num | (congr 1; omega) | skip⟩
            case measure => simp [intOf]; omega
          · obtain rfl : k = t.size := by omega
            have hfull : a = natOf t.data.toList := by rw [HA.out, List.take_of_length_le (by rw [str_len]; omega)]
            have HF := Lib.hid hfull
            clear hfull HA
            cases hm : minusOf s.data.toList with
            | false =>
              have e2 : (t.toList == s.toList) = true := by rw [str_list, str_list, HEQ.out, hm]; rfl
              have HRR := Lib.hid (show plainRes s.data.toList = .tuple #[.int .i64 (a : Int), .bool true] by rw [HR.out, HF.out, hm]; rfl)
              clear HR HF hm
              go_wp2_with fail
              go_ret2
              exact ⟨by rw [HRR.out]; rfl, rfl⟩
            | true =>
              have e2 : (t.toList == s.toList) = false := by rw [str_list, str_list, HEQ.out, hm]; rfl
              have HRR := Lib.hid (show plainRes s.data.toList = .tuple #[.int .i64 (-(a : Int)), .bool true] by rw [HR.out, HF.out, hm]; rfl)
              clear HR HF hm
              go_wp2_with fail
              go_ret2
              exact ⟨by rw [HRR.out]; rfl, rfl⟩
    · have hn : plainOk s.data.toList = false := by
        unfold plainOk; rw [← HTL.out]
        have : ¬ t.data.toList.length ≤ 17 := by rw [str_len]; exact hl
        rw [decide_eq_false this]; simp
      have HR := Lib.hid (show plainRes s.data.toList = .tuple #[.int .i64 0, .bool false] by unfold plainRes; rw [plain_no hn, hn])
      clear hn
      go_enter Tryd.func17, Tryd.ntmps17
      go_wp2_with fail
      refine (Any.strings_TrimPrefix Tryd.laysn101 s ⟨#[45]⟩ _).mono ?_
      rw [show (⟨#[45]⟩ : ByteArray).data.toList = [45] from rfl, HTP.out]
      rintro e w' ⟨rfl, rfl⟩
      go_wp2_with fail
      refine (ref_digits t _ (by omega)).mono ?_
      rw [hd]
      rintro e w' ⟨rfl, rfl⟩
      clear hd
      go_wp2_with fail
      go_ret2
      exact ⟨by rw [HR.out]; rfl, rfl⟩
  · have hd' : digitsB t.data.toList = false := by simpa using hd
    have hn : plainOk s.data.toList = false := by unfold plainOk; rw [← HTL.out, hd']; rfl
    have HR := Lib.hid (show plainRes s.data.toList = .tuple #[.int .i64 0, .bool false] by unfold plainRes; rw [plain_no hn, hn])
    clear hn hd
    go_enter Tryd.func17, Tryd.ntmps17
    go_wp2_with fail
    refine (Any.strings_TrimPrefix Tryd.laysn101 s ⟨#[45]⟩ _).mono ?_
    rw [show (⟨#[45]⟩ : ByteArray).data.toList = [45] from rfl, HTP.out]
    rintro e w' ⟨rfl, rfl⟩
    go_wp2_with fail
    refine (ref_digits t _ (by omega)).mono ?_
    rw [hd']
    rintro e w' ⟨rfl, rfl⟩
    clear hd'
    go_wp2_with fail
    go_ret2
    exact ⟨by rw [HR.out]; rfl, rfl⟩
end Go.Proofs.YthpiiocncdpimabDoor
