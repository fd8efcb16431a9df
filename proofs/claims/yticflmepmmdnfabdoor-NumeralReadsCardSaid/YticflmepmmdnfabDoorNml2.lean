/- Contracts of the writers of numeral's scripts 9 to 11. -/
import Derived.Test.YticflmepmmdnfabDoorNml1
import Derived.Test.YticflmepmmdnfabDoorPrt0
import Derived.Test.YticflmepmmdnfabDoorLayRep
import Derived.Test.YticflmepmmdnfabDoorRef
import Derived.Laws.DeepStrings4
namespace Go.Proofs.YticflmepmmdnfabDoor
set_option linter.unusedVariables false
set_option linter.unusedSimpArgs false
set_option maxRecDepth 100000
open Go.RowKit Go.Shelf Nml

theorem extraRep : Builder.Extra Tryd.prog Tryd.laysn105_ren where
  sizeBuilder := by kernel_rfl
  liesBuilder := by kernel_rfl
  t5 := Tryd.underlying5
  a5 := Tryd.isAgg5
  z5 := Tryd.sizeOf5
  v5 := Tryd.zeroValue5
  infoByte := by kernel_rfl
  cellsByte := by kernel_rfl
  sizeByte := by kernel_rfl
  neB5 := by decide
theorem repeat_one (a : UInt8) : ∀ c, Lib.repeatL [a] c = List.replicate c a
  | 0 => rfl
  | c + 1 => by show [a] ++ Lib.repeatL [a] c = _; rw [repeat_one a c]; rfl
theorem lib_Repeat1 (a : UInt8) (c : Int) (w : World) (h0 : 0 ≤ c) (h1 : c ≤ 100) :
    Calls Tryd.prog 19 #[.string ⟨#[a]⟩, .int .i64 c] w fun e w' => e = .returned (.string ⟨(List.replicate c.toNat a).toArray⟩) ∧ Below w.heap.size w w' := by
  have h := Any.strings_Repeat { Tryd.laysn105 with } extraRep ⟨#[a]⟩ c.toNat w (by omega) (by have : (⟨#[a]⟩ : ByteArray).size = 1 := rfl; rw [this]; omega)
  rw [← repeat_one]
  rw [show ((c.toNat : Nat) : Int) = c by omega] at h
  exact h
theorem addL (a b c : List UInt8) (hc : a ++ b = c) (h : c.length ≤ 1000000) : ∀ W, (Op.stringOp .add ⟨a.toArray⟩ ⟨b.toArray⟩).run Tryd.prog W = .ok (.string ⟨c.toArray⟩) W := by
  subst hc
  refine add_ok _ _ _ (ByteArray.mk_append_mk a b) ?_
  have ha : (⟨a.toArray⟩ : ByteArray).size = a.length := by show a.toArray.size = _; simp
  have hb : (⟨b.toArray⟩ : ByteArray).size = b.length := by show b.toArray.size = _; simp
  rw [List.length_append] at h
  omega
theorem romD_len (a b c : UInt8) (n : Nat) : (romD a b c n).length ≤ n + 2 := by
  unfold romD
  split
  · simp
  · split
    · simp; omega
    · split
      · simp
      · simp
theorem slice_ok' (s r : ByteArray) (i j : Int) (h0 : 0 ≤ i) (h1 : i ≤ j) (h2 : j ≤ (s.size : Int)) (he : s.extract i.toNat j.toNat = r) : ∀ W, (Instr.slice 9 (.string s) (some (.int .i64 i)) (some (.int .i64 j)) none).run Tryd.prog W = .ok (.string r) W := fun W => by
  rw [run_slice_string_if W 9 s .i64 .i64 i j (by kernel_rfl), if_pos ⟨by omega, h2⟩, if_pos ⟨h0, h1⟩, he]
set_option maxHeartbeats 4000000 in
theorem num_romanDigit (a b c : UInt8) (n : Int) (w : World) (h0 : 0 ≤ n) (h1 : n < 10) :
    Calls Tryd.prog 59 #[.int .i64 n, .string ⟨#[a, b, c]⟩] w fun e w' => e = .returned (.string ⟨(romD a b c n.toNat).toArray⟩) ∧ Below w.heap.size w w' := by
  have e1 : (⟨#[a, b, c]⟩ : ByteArray).extract 0 1 = ⟨#[a]⟩ := rfl
  have e2 : (⟨#[a, b, c]⟩ : ByteArray).extract 1 2 = ⟨#[b]⟩ := rfl
  have e3 : (⟨#[a, b, c]⟩ : ByteArray).extract 2 3 = ⟨#[c]⟩ := rfl
  have hz : ((⟨#[a, b, c]⟩ : ByteArray).size : Int) = 3 := rfl
  obtain ⟨S, hS⟩ : ∃ S : ByteArray, S = ⟨#[a, b, c]⟩ := ⟨_, rfl⟩
  rw [← hS] at e1 e2 e3 hz ⊢
  clear hS
  have s1 : ∀ W, (Instr.slice 9 (.string S) (some (.int .i64 0)) (some (.int .i64 1)) none).run Tryd.prog W = .ok (.string ⟨#[a]⟩) W := slice_ok' S _ 0 1 (by omega) (by omega) (by omega) e1
  have s2 : ∀ W, (Instr.slice 9 (.string S) (some (.int .i64 1)) (some (.int .i64 2)) none).run Tryd.prog W = .ok (.string ⟨#[b]⟩) W := slice_ok' S _ 1 2 (by omega) (by omega) (by omega) e2
  have s3 : ∀ W, (Instr.slice 9 (.string S) (some (.int .i64 2)) (some (.int .i64 3)) none).run Tryd.prog W = .ok (.string ⟨#[c]⟩) W := slice_ok' S _ 2 3 (by omega) (by omega) (by omega) e3
  clear e1 e2 e3 hz
  unfold romD
  by_cases h9 : n = 9
  · rw [if_pos (by omega)]
    have d9 : (n == 9) = true := by simpa using h9
    have a1 := addL [a] [c] [a, c] rfl (by simp)
    clear h9
    go_enter Tryd.func59, Tryd.ntmps59
    go_wp2_with fail
    go_quiet (fail)
    go_wp2_with fail
    go_ret
    exact ⟨rfl, below_drewN (Below.refl _ _) _⟩
  · rw [if_neg (by omega)]
    have d9 : (n == 9) = false := by simpa using h9
    by_cases h5 : 5 ≤ n
    · rw [if_pos (by omega)]
      have CR := lib_Repeat1 a (n - 5) 
      rw [show (n - 5).toNat = n.toNat - 5 by omega] at CR
      have CR' := Lib.hid CR; clear CR
      have a1 := addL [b] (List.replicate (n.toNat - 5) a) _ rfl (by simp; omega)
      go_enter Tryd.func59, Tryd.ntmps59
      go_wp2_with fail
      go_quiet (fail)
      go_wp2_with fail
      refine (CR'.out _ (by omega) (by omega)).mono ?_
      rintro e w1 ⟨rfl, b1⟩
      have B1 := Lib.hid (below_then (below_drewN (Below.refl _ _) _) b1); clear b1
      go_wp2_with fail
      go_ret
      exact ⟨rfl, B1.out⟩
    · rw [if_neg (by omega)]
      by_cases h4 : n = 4
      · rw [if_pos (by omega)]
        have d4 : (n == 4) = true := by simpa using h4
        have a1 := addL [a] [b] [a, b] rfl (by simp)
        go_enter Tryd.func59, Tryd.ntmps59
        go_wp2_with fail
        go_quiet (fail)
        go_wp2_with fail
        go_ret
        exact ⟨rfl, below_drewN (Below.refl _ _) _⟩
      · rw [if_neg (by omega)]
        have d4 : (n == 4) = false := by simpa using h4
        have CR' := Lib.hid (lib_Repeat1 a n)
        go_enter Tryd.func59, Tryd.ntmps59
        go_wp2_with fail
        go_quiet (fail)
        go_wp2_with fail
        refine (CR'.out _ (by omega) (by omega)).mono ?_
        rintro e w1 ⟨rfl, b1⟩
        have B1 := Lib.hid (below_then (below_drewN (Below.refl _ _) _) b1); clear b1
        go_wp2_with fail
        go_ret
        exact ⟨rfl, B1.out⟩
set_option maxHeartbeats 4000000 in
theorem num_writeRoman (n : Int) (w : World) (h0 : 0 ≤ n) (h1 : n < 4000) :
    Calls Tryd.prog 43 #[.int .i64 n] w fun e w' => e = .returned (.string ⟨(romS n.toNat).toArray⟩) ∧ Below w.heap.size w w' := by
  have C0 := fun W => lib_Repeat1 77 (n / 1000) W (by omega) (by omega)
  have C1 := fun W => num_romanDigit 67 68 77 (n / 100 % 10) W (by omega) (by omega)
  have C2 := fun W => num_romanDigit 88 76 67 (n / 10 % 10) W (by omega) (by omega)
  have C3 := fun W => num_romanDigit 73 86 88 (n % 10) W (by omega) (by omega)
  have l0 : (List.replicate (n / 1000).toNat (77 : UInt8)).length ≤ 4 := by rw [List.length_replicate]; omega
  have l1 := romD_len 67 68 77 (n / 100 % 10).toNat
  have l2 := romD_len 88 76 67 (n / 10 % 10).toNat
  have l3 := romD_len 73 86 88 (n % 10).toNat
  have HR0 : romS n.toNat = List.replicate (n / 1000).toNat 77 ++ romD 67 68 77 (n / 100 % 10).toNat ++ romD 88 76 67 (n / 10 % 10).toNat ++ romD 73 86 88 (n % 10).toNat := by
    unfold romS
    rw [show (n / 1000).toNat = n.toNat / 1000 by omega, show (n / 100 % 10).toNat = n.toNat / 100 % 10 by omega, show (n / 10 % 10).toNat = n.toNat / 10 % 10 by omega, show (n % 10).toNat = n.toNat % 10 by omega]
  generalize List.replicate (n / 1000).toNat (77 : UInt8) = A0 at C0 l0 HR0
  generalize romD 67 68 77 (n / 100 % 10).toNat = A1 at C1 l1 HR0
  generalize romD 88 76 67 (n / 10 % 10).toNat = A2 at C2 l2 HR0
  generalize romD 73 86 88 (n % 10).toNat = A3 at C3 l3 HR0
  replace C0 := Lib.hid C0; replace C1 := Lib.hid C1; replace C2 := Lib.hid C2; replace C3 := Lib.hid C3
  have a1 := addL A0 A1 _ rfl (by rw [List.length_append]; omega)
  have a2 := addL (A0 ++ A1) A2 _ rfl (by rw [List.length_append, List.length_append]; omega)
  have a3 := addL (A0 ++ A1 ++ A2) A3 _ rfl (by rw [List.length_append, List.length_append, List.length_append]; omega)
  obtain ⟨T1, hT1⟩ : ∃ T, T = A0 ++ A1 := ⟨_, rfl⟩
  rw [← hT1] at a1 a2 a3 HR0
  obtain ⟨T2, hT2⟩ : ∃ T, T = T1 ++ A2 := ⟨_, rfl⟩
  rw [← hT2] at a2 a3 HR0
  obtain ⟨T3, hT3⟩ : ∃ T, T = T2 ++ A3 := ⟨_, rfl⟩
  rw [← hT3] at a3 HR0
  clear hT1 hT2 hT3 l0
  have HR := Lib.hid HR0; clear HR0
  clear l1 l2 l3
  go_enter Tryd.func43, Tryd.ntmps43
  go_wp2_with fail
  refine (C0.out _).mono ?_
  rintro e w1 ⟨rfl, b1⟩
  have B1 := Lib.hid b1; clear b1
  go_wp2_with fail
  refine (C1.out _).mono ?_
  rintro e w2 ⟨rfl, b2⟩
  have B2 := Lib.hid (below_then B1.out b2); clear b2 B1
  go_wp2_with fail
  refine (C2.out _).mono ?_
  rintro e w3 ⟨rfl, b3⟩
  have B3 := Lib.hid (below_then B2.out b3); clear b3 B2
  go_wp2_with fail
  refine (C3.out _).mono ?_
  rintro e w4 ⟨rfl, b4⟩
  have B4 := Lib.hid (below_then B3.out b4); clear b4 B3
  go_wp2_with fail
  go_ret
  exact ⟨by rw [HR.out]; rfl, B4.out⟩
end Go.Proofs.YticflmepmmdnfabDoor
