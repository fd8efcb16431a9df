/- Contracts of numeral.write, Write, Pad. -/
import Derived.Test.YticflmepmmdnfabDoorNml6
import Derived.Test.YticflmepmmdnfabDoorLayNm
namespace Go.Proofs.YticflmepmmdnfabDoor
set_option linter.unusedVariables false
set_option linter.unusedSimpArgs false
set_option maxRecDepth 100000
open Go.RowKit Go.Shelf Nml

def lowS (s : Int) : Int := if s = 9 then 1 else if s = 10 ∨ s = 11 then 1 else if s = 12 then 0 else -2147483647
def highS (s : Int) : Int := if s = 9 then 3999 else if s = 10 ∨ s = 11 then 999 else if s = 12 then 9999 else 2147483647
def inS (s n : Int) : Bool := decide (lowS s ≤ n) && decide (n ≤ highS s)
/-- The text of a number in a script. -/
def numT (s n : Int) : List UInt8 := if s = 9 then romS n.toNat else if s = 10 then sigS true n.toNat else if s = 11 then sigS false n.toNat else if s = 12 then chS n.toNat else posL (zeroOf s.toNat) (Lib.itoa n)
theorem num_bounds (s : Int) (w : World) : Calls Tryd.prog 31 #[.int .i64 s] w fun e w' => e = .returned (.tuple #[.int .i64 (lowS s), .int .i64 (highS s)]) ∧ w = w' := by
  unfold lowS highS
  by_cases h9 : s = 9
  · have d9 : (s == 9) = true := by simpa using h9
    rw [if_pos h9, if_pos h9]
    go_enter Tryd.func31, Tryd.ntmps31
    go_wp2_with fail
    go_ret2
    exact ⟨rfl, rfl⟩
  have d9 : (s == 9) = false := by simpa using h9
  rw [if_neg h9, if_neg h9]
  by_cases h10 : s = 10
  · have d10 : (s == 10) = true := by simpa using h10
    rw [if_pos (.inl h10), if_pos (.inl h10)]
    go_enter Tryd.func31, Tryd.ntmps31
    go_wp2_with fail
    go_ret2
    exact ⟨rfl, rfl⟩
  have d10 : (s == 10) = false := by simpa using h10
  by_cases h11 : s = 11
  · have d11 : (s == 11) = true := by simpa using h11
    rw [if_pos (.inr h11), if_pos (.inr h11)]
    go_enter Tryd.func31, Tryd.ntmps31
    go_wp2_with fail
    go_ret2
    exact ⟨rfl, rfl⟩
  have d11 : (s == 11) = false := by simpa using h11
  have h1011 : ¬ (s = 10 ∨ s = 11) := by omega
  rw [if_neg h1011, if_neg h1011]
  by_cases h12 : s = 12
  · have d12 : (s == 12) = true := by simpa using h12
    rw [if_pos h12, if_pos h12]
    go_enter Tryd.func31, Tryd.ntmps31
    go_wp2_with fail
    go_ret2
    exact ⟨rfl, rfl⟩
  have d12 : (s == 12) = false := by simpa using h12
  rw [if_neg h12, if_neg h12]
  go_enter Tryd.func31, Tryd.ntmps31
  go_wp2_with fail
  go_ret2
  exact ⟨rfl, rfl⟩
theorem num_writes (s n : Int) (w : World) : Calls Tryd.prog 16 #[.int .i64 s, .int .i64 n] w fun e w' => e = .returned (.bool (inS s n)) ∧ w = w' := by
  have CB := Lib.hid (num_bounds s)
  unfold inS
  generalize lowS s = L at *
  generalize highS s = H at *
  by_cases h1 : L ≤ n
  · rw [decide_eq_true h1]
    go_enter Tryd.func16, Tryd.ntmps16
    go_wp2_with fail
    refine (CB.out _).mono ?_
    rintro e w1 ⟨rfl, rfl⟩
    go_wp2_with fail
    go_ret
    exact ⟨ret_bool (by simp), rfl⟩
  · rw [decide_eq_false h1]
    go_enter Tryd.func16, Tryd.ntmps16
    go_wp2_with fail
    refine (CB.out _).mono ?_
    rintro e w1 ⟨rfl, rfl⟩
    go_wp2_with fail
    go_ret
    exact ⟨ret_bool (by simp), rfl⟩
theorem num_isScript (s : Int) (w : World) : Calls Tryd.prog 25 #[.int .i64 s] w fun e w' => e = .returned (.bool (inB 0 12 s)) ∧ w = w' := by
  unfold inB
  by_cases h1 : 0 ≤ s
  · go_enter Tryd.func25, Tryd.ntmps25
    go_wp2_with fail
    go_ret
    exact ⟨ret_bool (by simp [h1]), rfl⟩
  · go_enter Tryd.func25, Tryd.ntmps25
    go_wp2_with fail
    go_ret
    exact ⟨ret_bool (by simp; omega), rfl⟩
theorem inS_bounds {s n : Int} (h : inS s n = true) : -2147483647 ≤ n ∧ n ≤ 2147483647 ∧ (s = 9 → 1 ≤ n ∧ n ≤ 3999) ∧ (s = 10 ∨ s = 11 → 1 ≤ n ∧ n ≤ 999) ∧ (s = 12 → 0 ≤ n ∧ n ≤ 9999) := by
  unfold inS lowS highS at h
  rw [Bool.and_eq_true, decide_eq_true_eq, decide_eq_true_eq] at h
  obtain ⟨h1, h2⟩ := h
  split at h1 <;> split at h2 <;> first | (refine ⟨?_, ?_, ?_, ?_, ?_⟩ <;> omega) | (split at h1 <;> split at h2 <;> first | (refine ⟨?_, ?_, ?_, ?_, ?_⟩ <;> omega) | (split at h1 <;> split at h2 <;> (refine ⟨?_, ?_, ?_, ?_, ?_⟩ <;> omega)))
theorem itoa_len (n : Int) (h0 : -2147483647 ≤ n) (h1 : n ≤ 2147483647) : (Lib.itoa n).length ≤ 21 := by
  have := itoaS_size (n := n) (by omega) (by omega)
  have e : (itoaS n).size = (Lib.itoa n).length := by show (Lib.itoa n).toArray.size = _; simp
  omega
set_option maxHeartbeats 4000000 in
theorem num_write (s n : Int) (w : World) (hs : inB 0 12 s = true) (hn : inS s n = true) (hz : Zer w) (hu : Utf w) (hp : Pow w) :
    Calls Tryd.prog 26 #[.int .i64 s, .int .i64 n] w fun e w' => e = .returned (.string ⟨(numT s n).toArray⟩) ∧ Below w.heap.size w w' := by
  obtain ⟨b1, b2, b9, b10, b12⟩ := inS_bounds hn
  have hs2 : 0 ≤ s ∧ s ≤ 12 := by unfold inB at hs; simpa using hs
  obtain ⟨s1, s2⟩ := hs2
  unfold numT
  by_cases h9 : s = 9
  · have d9 : (s == 9) = true := by simpa using h9
    rw [if_pos h9]
    have HH := h9
    have C := Lib.hid (num_writeRoman n w (by have := (b9 h9).1; omega) (by have := (b9 h9).2; omega))
    clear hs hn hz hu hp b1 b2 b9 b10 b12 s1 s2 HH
    try clear h9
    try clear h10
    try clear h11
    try clear h12
    go_enter Tryd.func26, Tryd.ntmps26
    go_wp2_with fail
    refine C.out.mono ?_
    rintro e w1 ⟨rfl, b⟩
    go_wp2_with fail
    go_ret
    exact ⟨rfl, b⟩
  have d9 : (s == 9) = false := by simpa using h9
  rw [if_neg h9]
  by_cases h10 : s = 10
  · have d10 : (s == 10) = true := by simpa using h10
    rw [if_pos h10]
    have HH := h10
    have C := num_writeSigns true n w (by have := (b10 (.inl h10)).1; omega) (by have := (b10 (.inl h10)).2; omega)
    rw [show scr true = s from h10.symm] at C
    have C := Lib.hid C
    clear hs hn hz hu hp b1 b2 b9 b10 b12 s1 s2 HH
    try clear h9
    try clear h10
    try clear h11
    try clear h12
    go_enter Tryd.func26, Tryd.ntmps26
    go_wp2_with fail
    refine C.out.mono ?_
    rintro e w1 ⟨rfl, b⟩
    go_wp2_with fail
    go_ret
    exact ⟨rfl, b⟩
  have d10 : (s == 10) = false := by simpa using h10
  rw [if_neg h10]
  by_cases h11 : s = 11
  · have d11 : (s == 11) = true := by simpa using h11
    rw [if_pos h11]
    have HH := h11
    have C := num_writeSigns false n w (by have := (b10 (.inr h11)).1; omega) (by have := (b10 (.inr h11)).2; omega)
    rw [show scr false = s from h11.symm] at C
    have C := Lib.hid C
    clear hs hn hz hu hp b1 b2 b9 b10 b12 s1 s2 HH
    try clear h9
    try clear h10
    try clear h11
    try clear h12
    go_enter Tryd.func26, Tryd.ntmps26
    go_wp2_with fail
    refine C.out.mono ?_
    rintro e w1 ⟨rfl, b⟩
    go_wp2_with fail
    go_ret
    exact ⟨rfl, b⟩
  have d11 : (s == 11) = false := by simpa using h11
  rw [if_neg h11]
  by_cases h12 : s = 12
  · have d12 : (s == 12) = true := by simpa using h12
    rw [if_pos h12]
    have HH := h12
    have C := Lib.hid (num_writeChinese n w (b12 h12).1 (by have := (b12 h12).2; omega))
    clear hs hn hz hu hp b1 b2 b9 b10 b12 s1 s2 HH
    try clear h9
    try clear h10
    try clear h11
    try clear h12
    go_enter Tryd.func26, Tryd.ntmps26
    go_wp2_with fail
    refine C.out.mono ?_
    rintro e w1 ⟨rfl, rfl⟩
    go_wp2_with fail
    go_ret
    exact ⟨rfl, Below.refl _ _⟩
  have d12 : (s == 12) = false := by simpa using h12
  rw [if_neg h12]
  have C0 := Lib.hid (lib_Itoa n w (by omega) (by omega) hp)
  have HZ := Lib.hid hz; have HU := Lib.hid hu
  have C1 := Lib.hid (fun W (hb : Below w.heap.size w W) => by
    have := num_digits s.toNat (Lib.itoa n) W (by omega) (by have := itoa_len n b1 b2; omega) (itoa_ascii n) (HZ.out.below hb) (Utf8Tabs_below HU.out hb)
    rw [show ((s.toNat : Nat) : Int) = s by omega] at this
    exact this)
  clear hz hu hp hs hn b1 b2 b9 b10 b12 s1 s2 h9 h10 h11 h12
  go_enter Tryd.func26, Tryd.ntmps26
  go_wp2_with fail
  refine C0.out.mono ?_
  rintro e w1 ⟨rfl, b⟩
  have B1 := Lib.hid b; clear b
  go_wp2_with fail
  refine (C1.out _ B1.out).mono ?_
  rintro e w2 ⟨rfl, b⟩
  have B2 := Lib.hid (below_then B1.out b); clear b B1
  go_wp2_with fail
  go_ret
  exact ⟨rfl, B2.out⟩
/-- What Write returns. -/
def wrE (s n : Int) : Int := if inB 0 12 s = false then 1 else if inS s n = false then 3 else 0
def wrX (s n : Int) : List UInt8 := if inB 0 12 s = false then [] else if inS s n = false then [] else numT s n
set_option maxHeartbeats 4000000 in
theorem num_Write (s n : Int) (w : World) (hz : Zer w) (hu : Utf w) (hp : Pow w) :
    Calls Tryd.prog 10 #[.int .i64 s, .int .i64 n] w fun e w' => e = .returned (.tuple #[.string ⟨(wrX s n).toArray⟩, .int .i64 (wrE s n)]) ∧ Below w.heap.size w w' := by
  have CI := num_isScript s
  have CW := num_writes s n
  unfold wrE wrX
  by_cases hs : inB 0 12 s = false
  · rw [if_pos hs, if_pos hs]
    rw [hs] at CI
    have CI := Lib.hid CI
    go_enter Tryd.func10, Tryd.ntmps10
    go_wp2_with fail
    refine (CI.out _).mono ?_
    rintro e w1 ⟨rfl, rfl⟩
    go_wp2_with fail
    go_ret2
    exact ⟨rfl, Below.refl _ _⟩
  rw [if_neg hs, if_neg hs]
  have hs' : inB 0 12 s = true := by simpa using hs
  rw [hs'] at CI
  have CI := Lib.hid CI
  by_cases hn : inS s n = false
  · rw [if_pos hn, if_pos hn]
    rw [hn] at CW
    have CW := Lib.hid CW
    go_enter Tryd.func10, Tryd.ntmps10
    go_wp2_with fail
    refine (CI.out _).mono ?_
    rintro e w1 ⟨rfl, rfl⟩
    go_wp2_with fail
    refine (CW.out _).mono ?_
    rintro e w2 ⟨rfl, rfl⟩
    go_wp2_with fail
    go_ret2
    exact ⟨rfl, Below.refl _ _⟩
  rw [if_neg hn, if_neg hn]
  have hn' : inS s n = true := by simpa using hn
  rw [hn'] at CW
  have CW := Lib.hid CW
  have C := Lib.hid (num_write s n w hs' hn' hz hu hp)
  clear hs hs' hn hn' hz hu hp
  generalize numT s n = T at *
  go_enter Tryd.func10, Tryd.ntmps10
  go_wp2_with fail
  refine (CI.out _).mono ?_
  rintro e w1 ⟨rfl, rfl⟩
  go_wp2_with fail
  refine (CW.out _).mono ?_
  rintro e w2 ⟨rfl, rfl⟩
  go_wp2_with fail
  refine C.out.mono ?_
  rintro e w3 ⟨rfl, b⟩
  have B := Lib.hid b; clear b
  go_wp2_with fail
  go_ret2
  exact ⟨rfl, B.out⟩
end Go.Proofs.YticflmepmmdnfabDoor
