/- Contracts of zone.IsOffset, line.IsInstant, zone.IsLabel and of the reference's Offset and Label. -/
import Derived.Test.YthpiiocncdpimabDoorZone0
import Derived.Test.YthpiiocncdpimabDoorLine2
import Derived.Test.YthpiiocncdpimabDoorLayTrim
namespace Go.Proofs.YthpiiocncdpimabDoor
set_option linter.unusedVariables false
set_option maxRecDepth 100000
open Go.RowKit Go.Shelf

theorem rem_1000 (n : Int) : (n.tmod 1000 = 0) ↔ n % 1000 = 0 := by
  rw [← Int.dvd_iff_tmod_eq_zero, ← Int.dvd_iff_emod_eq_zero]
theorem zone_IsOffset (n : Int) (w : World) (h1 : -9223372036854775808 ≤ n) (h2 : n ≤ 9223372036854775807) :
    Calls Tryd.prog 33 #[.int .i64 n] w fun e w' => e = .returned (.bool (offB n)) ∧ w = w' := by
  by_cases hr : n % 1000 = 0
  · have hr' : (n.tmod 1000 == 0) = true := by simpa using (rem_1000 n).2 hr
    have hr2 : (n % 1000 == 0) = true := by simpa using hr
    rcases inB_cases (-64800000) 64800000 n with ⟨hi, i1, i2⟩ | ⟨hi, hi'⟩
    · have ho := Lib.hid (show offB n = true by unfold offB; rw [hi, decide_eq_true hr]; rfl)
      clear hr
      go_enter Tryd.func33, Tryd.ntmps33
      go_wp2_with fail
      go_ret
      exact ⟨ret_bool (by rw [ho.out] <;> first | rfl | (simp; omega)), rfl⟩
    · have ho := Lib.hid (show offB n = false by unfold offB; rw [hi]; simp)
      have hi2 : n < -64800000 ∨ (-64800000 ≤ n ∧ 64800000 < n) := by omega
      clear hr hi'
      rcases hi2 with q | ⟨q, q'⟩
      all_goals
        go_enter Tryd.func33, Tryd.ntmps33
        go_wp2_with fail
        go_ret
        exact ⟨ret_bool (by rw [ho.out] <;> first | rfl | (simp; omega)), rfl⟩
  · have hr' : (n.tmod 1000 == 0) = false := by simpa using fun h => hr ((rem_1000 n).1 h)
    have hr2 : (n % 1000 == 0) = false := by simpa using hr
    have ho := Lib.hid (show offB n = false by unfold offB; rw [decide_eq_false hr]; rfl)
    clear hr
    go_enter Tryd.func33, Tryd.ntmps33
    go_wp2_with fail
    go_ret
    exact ⟨ret_bool (by rw [ho.out] <;> first | rfl | (simp; omega)), rfl⟩
theorem line_IsInstant (t : Int) (w : World) (h1 : -9223372036854775808 ≤ t) (h2 : t ≤ 9223372036854775807) :
    Calls Tryd.prog 34 #[.int .i64 t] w fun e w' => e = .returned (.bool (instB t)) ∧ Drawn w w' := by
  go_enter Tryd.func34, Tryd.ntmps34
  go_wp2_with fail
  refine (whole_Down _ _ _ h1 h2 (by omega) (by omega)).mono ?_; rintro e w' ⟨rfl, hd⟩
  go_wp2_with fail
  refine (line_Is _ _).mono ?_; rintro e w' ⟨rfl, rfl⟩
  go_wp2_with fail
  go_ret
  exact ⟨rfl, hd⟩
theorem ref_InstantB (t : Int) (w : World) (h1 : -9223372036854775808 ≤ t) (h2 : t ≤ 9223372036854775807) :
    Calls Tryd.prog 25 #[.int .i64 t] w fun e w' => e = .returned (.bool (instB t)) ∧ w = w' := ref_Instant t w h1 h2
theorem ref_Offset (n : Int) (w : World) (h1 : -9223372036854775808 ≤ n) (h2 : n ≤ 9223372036854775807) :
    Calls Tryd.prog 24 #[.int .i64 n] w fun e w' => e = .returned (.bool (offB n)) ∧ w = w' := by
  rcases inB_cases (-64800000) 64800000 n with ⟨hi, i1, i2⟩ | ⟨hi, hi'⟩
  · obtain ⟨b, hb⟩ : ∃ b, b = decide (n % 1000 = 0) := ⟨_, rfl⟩
    have ho := Lib.hid (show offB n = b by unfold offB; rw [hi, hb]; simp)
    have hb' : (n % 1000 == 0) = b := by rw [hb]; rfl
    clear hb
    cases b
    all_goals
      go_enter Tryd.func24, Tryd.ntmps24
      go_wp2_with fail
      refine (ref_In _ _ _ _).mono ?_; rw [hi]; rintro e w' ⟨rfl, rfl⟩
      go_wp2_with fail
      refine (ref_Mod _ _ _ h1 h2 (by omega) (by omega)).mono ?_; rintro e w' ⟨rfl, rfl⟩
      go_wp2_with fail
      go_ret
      exact ⟨ret_bool (by rw [ho.out] <;> first | rfl | (simp; omega)), rfl⟩
  · have ho := Lib.hid (show offB n = false by unfold offB; rw [hi]; simp)
    go_enter Tryd.func24, Tryd.ntmps24
    go_wp2_with fail
    refine (ref_In _ _ _ _).mono ?_; rw [hi]; rintro e w' ⟨rfl, rfl⟩
    go_wp2_with fail
    go_ret
    exact ⟨ret_bool (by rw [ho.out] <;> first | rfl | (simp; omega)), rfl⟩
theorem zone_IsLabel (s : ByteArray) (w : World) (hs : s.size ≤ 9223372036854775807) :
    Calls Tryd.prog 35 #[.string s] w fun e w' => e = .returned (.bool (labelB s)) ∧ w = w' := by
  go_enter Tryd.func35, Tryd.ntmps35
  go_wp2_with fail
  go_loop [3, 6] (fun _ i => ∃ k : Nat, k ≤ s.size ∧ i = .int .i64 k ∧ ∀ j (h : j < s.size), j < k → big s[j] = true) (fun _ i => s.size - (intOf i).toNat)
  case atStart => exact ⟨0, by omega, rfl, fun j _ h => absurd h (by omega)⟩
  case round =>
    obtain ⟨k, hk, rfl, hall⟩ := hrel
    have HA := Lib.hid hall; clear hall
    by_cases hlt : k < s.size
    · obtain ⟨c, hc⟩ : ∃ c, c = s[k] := ⟨_, rfl⟩
      by_cases hq : 65 ≤ s[k].toNat ∧ s[k].toNat ≤ 90
      · have q1 : (65 : Int) ≤ (s[k].toNat : Int) := by omega
        have q2 : (s[k].toNat : Int) ≤ 90 := by omega
        have HQ := Lib.hid hq; clear hq hc
        go_wp2_with fail
        go_round
        case rel =>
          refine ⟨k + 1, by omega, by go_num, fun j h hj => ?_⟩
          by_cases hjk : j = k
          · subst hjk; exact decide_eq_true HQ.out
          · exact HA.out j h (by omega)
        case measure => simp [intOf]; omega
      · have hb := Lib.hid (show labelB s = false by unfold labelB; rw [big_bad s k hlt (decide_eq_false hq)]; simp)
        have hq' : (s[k].toNat : Int) < 65 ∨ (90 : Int) < (s[k].toNat : Int) := by omega
        clear hq hc
        rcases hq' with q | q
        all_goals
          go_wp2_with fail
          go_ret
          exact ⟨ret_bool (by rw [hb.out]), rfl⟩
    · have hg := Lib.hid (big_good s (fun j h => HA.out j h (by omega)))
      by_cases hn : 1 ≤ s.size ∧ s.size ≤ 6
      · have ho := Lib.hid (show labelB s = true by unfold labelB; rw [hg.out, decide_eq_true hn]; rfl)
        obtain ⟨n1, n2⟩ := hn
        go_wp2_with fail
        go_ret
        exact ⟨ret_bool (by rw [ho.out] <;> first | rfl | (simp; omega)), rfl⟩
      · have ho := Lib.hid (show labelB s = false by unfold labelB; rw [decide_eq_false hn]; rfl)
        have hn' : s.size < 1 ∨ (1 ≤ s.size ∧ 6 < s.size) := by omega
        clear hn
        rcases hn' with q | ⟨q, q'⟩
        all_goals
          go_wp2_with fail
          go_ret
          exact ⟨ret_bool (by rw [ho.out] <;> first | rfl | (simp; omega)), rfl⟩
def letters : ByteArray := ⟨#[65, 66, 67, 68, 69, 70, 71, 72, 73, 74, 75, 76, 77, 78, 79, 80, 81, 82, 83, 84, 85, 86, 87, 88, 89, 90]⟩
theorem in_letters (b : UInt8) : letters.data.toList.contains b = big b := by
  have key : ∀ n, n < 256 → letters.data.toList.contains (UInt8.ofNat n) = big (UInt8.ofNat n) := by decide +kernel
  have := key b.toNat b.toNat_lt
  rwa [UInt8.ofNat_toNat] at this
theorem drop_all {α : Type} (p : α → Bool) : ∀ l : List α, (∀ x ∈ l.dropWhile p, p x = true) → l.dropWhile p = []
  | [], _ => rfl
  | a :: l, h => by
    rw [List.dropWhile_cons] at h ⊢
    cases ha : p a with
    | true => rw [ha] at h; simp only [if_true] at h ⊢; exact drop_all p l h
    | false =>
      rw [ha] at h
      simp only [Bool.false_eq_true, if_false] at h
      have := h a List.mem_cons_self
      rw [ha] at this; cases this
theorem drop_nil {α : Type} (p : α → Bool) : ∀ l : List α, l.dropWhile p = [] ↔ ∀ x ∈ l, p x = true
  | [] => by simp
  | a :: l => by
    rw [List.dropWhile_cons]
    cases ha : p a with
    | true => simp only [if_true]; rw [drop_nil p l]; simp [ha]
    | false => simp [ha]
theorem trim_empty (l : List UInt8) : (Lib.trimS l letters.data.toList = []) ↔ l.all big = true := by
  have e : (fun b => letters.data.toList.contains b) = big := funext in_letters
  unfold Lib.trimS Lib.trimLeftS Lib.trimRightS
  simp only [e]
  rw [drop_nil]
  constructor
  · intro h
    have h1 := drop_all big l.reverse fun x hx => h x (List.mem_reverse.2 hx)
    rw [drop_nil] at h1
    rw [List.all_eq_true]
    exact fun x hx => h1 x (List.mem_reverse.2 hx)
  · intro h x hx
    have := (List.dropWhile_sublist big).subset (List.mem_reverse.1 hx)
    exact List.all_eq_true.1 h x (List.mem_reverse.1 this)
theorem ref_Label (s : ByteArray) (w : World) (hs : s.size ≤ 9223372036854775807) :
    Calls Tryd.prog 26 #[.string s] w fun e w' => e = .returned (.bool (labelB s)) ∧ Below w.heap.size w w' := by
  by_cases hn : 1 ≤ s.size ∧ s.size ≤ 6
  · have hi : inB 1 6 (s.size : Int) = true := inB_yes (by omega) (by omega)
    have hcon : Calls Tryd.prog 43 #[.string s, .string letters] w fun e w' => e = .returned (.string ⟨(Lib.trimS s.data.toList letters.data.toList).toArray⟩) ∧ Below w.heap.size w w' := Any.strings_Trim_laid Tryd.lays160 (by kernel_rfl) s letters w hs (by decide) (ascii_of_all (by decide))
    obtain ⟨t, ht⟩ : ∃ t, t = Lib.trimS s.data.toList letters.data.toList := ⟨_, rfl⟩
    have ho : labelB s = t.isEmpty := by
      unfold labelB
      rw [decide_eq_true hn, Bool.true_and, Bool.eq_iff_iff, List.isEmpty_iff, ht, trim_empty]
    rw [← ht] at hcon
    have HO := Lib.hid ho; have HCON := Lib.hid hcon
    clear ht ho hcon
    go_enter Tryd.func26, Tryd.ntmps26
    go_wp2_with fail
    refine (ref_In _ _ _ _).mono ?_; rw [hi]; rintro e w' ⟨rfl, rfl⟩
    go_wp2_with fail
    refine HCON.out.mono ?_
    rintro e w1 ⟨rfl, hb⟩
    cases t with
    | nil =>
      go_wp2_with fail
      go_ret
      exact ⟨ret_bool (by rw [HO.out]; rfl), hb⟩
    | cons c t =>
      go_wp2_with fail
      go_ret
      exact ⟨ret_bool (by rw [HO.out]; rfl), hb⟩
  · have hi : inB 1 6 (s.size : Int) = false := inB_no (by omega)
    have ho := Lib.hid (show labelB s = false by unfold labelB; rw [decide_eq_false hn]; rfl)
    clear hn
    go_enter Tryd.func26, Tryd.ntmps26
    go_wp2_with fail
    refine (ref_In _ _ _ _).mono ?_; rw [hi]; rintro e w' ⟨rfl, rfl⟩
    go_wp2_with fail
    go_ret
    exact ⟨ret_bool (by rw [ho.out]), Below.refl _ _⟩
end Go.Proofs.YthpiiocncdpimabDoor
