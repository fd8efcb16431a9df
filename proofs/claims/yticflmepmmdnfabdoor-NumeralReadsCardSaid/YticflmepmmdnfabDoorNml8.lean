/- Contract of numeral.Pad. -/
import Derived.Test.YticflmepmmdnfabDoorNml7
namespace Go.Proofs.YticflmepmmdnfabDoor
set_option linter.unusedVariables false
set_option linter.unusedSimpArgs false
set_option maxRecDepth 100000
open Go.RowKit Go.Shelf Nml

theorem dd_no45 (u : Nat) : ∀ c ∈ Lib.decDigits u, c ≠ 45 := fun c hc => by
  have := Num.dd_dig u c hc
  intro e; subst e; exact absurd this (by decide)
theorem pre45 (l : List UInt8) (h : ∀ c ∈ l, c ≠ 45) : Lib.hasPrefix l [45] = false := by
  cases l with
  | nil => rfl
  | cons c r =>
    have := h c (by simp)
    show ((45 : UInt8) == c && ([] : List UInt8).isPrefixOf r) = false
    have e : ((45 : UInt8) == c) = false := by rw [beq_eq_false_iff_ne]; exact fun e => this e.symm
    rw [e]; rfl
theorem cut_itoa (n : Int) : Lib.hasPrefix (Lib.itoa n) [45] = decide (n < 0) ∧ Lib.trimPrefix (Lib.itoa n) [45] = Lib.decDigits n.natAbs := by
  by_cases h : n < 0
  · have e : Lib.itoa n = 45 :: Lib.decDigits n.natAbs := by unfold Lib.itoa; rw [if_pos h]
    have hp : Lib.hasPrefix (45 :: Lib.decDigits n.natAbs) [45] = true := by
      show ((45 : UInt8) == 45 && ([] : List UInt8).isPrefixOf (Lib.decDigits n.natAbs)) = true
      simp
    rw [e]
    refine ⟨by rw [hp, decide_eq_true h], ?_⟩
    unfold Lib.trimPrefix
    rw [hp, if_pos rfl]; rfl
  · have e : Lib.itoa n = Lib.decDigits n.natAbs := by unfold Lib.itoa; rw [if_neg h, show n.toNat = n.natAbs by omega]
    have hp := pre45 (Lib.decDigits n.natAbs) (dd_no45 _)
    rw [e]
    refine ⟨by rw [hp, decide_eq_false h], ?_⟩
    unfold Lib.trimPrefix
    rw [hp, if_neg (by simp)]
theorem dd_len (n : Int) (h0 : -2147483647 ≤ n) (h1 : n ≤ 2147483647) : (Lib.decDigits n.natAbs).length ≤ 21 := by
  have := itoa_len n h0 h1
  unfold Lib.itoa at this
  split at this
  · simp at this; omega
  · rw [show n.toNat = n.natAbs by omega] at this; exact this
def padE (s n wd : Int) : Int := if (inB 0 8 s && inB 0 12 wd) = false then 1 else if inS s n = false then 3 else 0
def padX (s n wd : Int) : List UInt8 := if (inB 0 8 s && inB 0 12 wd) = false then [] else if inS s n = false then [] else posL (zeroOf s.toNat) (padT n wd.toNat)
def PadPost (s n wd : Int) (w : World) (e : Ending) (w' : World) : Prop := e = .returned (.tuple #[.string ⟨(padX s n wd).toArray⟩, .int .i64 (padE s n wd)]) ∧ Below w.heap.size w w'
theorem pad_bad {s n wd : Int} (h : ¬ (0 ≤ s ∧ s ≤ 8 ∧ 0 ≤ wd ∧ wd ≤ 12)) : padE s n wd = 1 ∧ padX s n wd = [] := by
  have : (inB 0 8 s && inB 0 12 wd) = false := by
    cases hh : (inB 0 8 s && inB 0 12 wd) with
    | false => rfl
    | true =>
      rw [Bool.and_eq_true] at hh
      unfold inB at hh
      simp at hh
      omega
  unfold padE padX
  rw [if_pos this, if_pos this]; exact ⟨rfl, rfl⟩
set_option maxHeartbeats 4000000 in
theorem num_Pad (s n wd : Int) (w : World) (hz : Zer w) (hu : Utf w) (hp : Pow w) :
    Calls Tryd.prog 6 #[.int .i64 s, .int .i64 n, .int .i64 wd] w (PadPost s n wd w) := by
  unfold PadPost
  by_cases h0 : s < 0
  · rw [(pad_bad (n := n) (by omega : ¬ (0 ≤ s ∧ s ≤ 8 ∧ 0 ≤ wd ∧ wd ≤ 12))).1, (pad_bad (n := n) (by omega : ¬ (0 ≤ s ∧ s ≤ 8 ∧ 0 ≤ wd ∧ wd ≤ 12))).2]
    go_enter Tryd.func6, Tryd.ntmps6
    go_wp2_with fail
    go_ret2
    exact ⟨rfl, Below.refl _ _⟩
  by_cases h1 : 9 ≤ s
  · rw [(pad_bad (n := n) (by omega : ¬ (0 ≤ s ∧ s ≤ 8 ∧ 0 ≤ wd ∧ wd ≤ 12))).1, (pad_bad (n := n) (by omega : ¬ (0 ≤ s ∧ s ≤ 8 ∧ 0 ≤ wd ∧ wd ≤ 12))).2]
    go_enter Tryd.func6, Tryd.ntmps6
    go_wp2_with fail
    go_ret2
    exact ⟨rfl, Below.refl _ _⟩
  by_cases h2 : wd < 0
  · rw [(pad_bad (n := n) (by omega : ¬ (0 ≤ s ∧ s ≤ 8 ∧ 0 ≤ wd ∧ wd ≤ 12))).1, (pad_bad (n := n) (by omega : ¬ (0 ≤ s ∧ s ≤ 8 ∧ 0 ≤ wd ∧ wd ≤ 12))).2]
    go_enter Tryd.func6, Tryd.ntmps6
    go_wp2_with fail
    go_ret2
    exact ⟨rfl, Below.refl _ _⟩
  by_cases h3 : 12 < wd
  · rw [(pad_bad (n := n) (by omega : ¬ (0 ≤ s ∧ s ≤ 8 ∧ 0 ≤ wd ∧ wd ≤ 12))).1, (pad_bad (n := n) (by omega : ¬ (0 ≤ s ∧ s ≤ 8 ∧ 0 ≤ wd ∧ wd ≤ 12))).2]
    go_enter Tryd.func6, Tryd.ntmps6
    go_wp2_with fail
    go_ret2
    exact ⟨rfl, Below.refl _ _⟩
  have hin : (inB 0 8 s && inB 0 12 wd) = true := by
    rw [Bool.and_eq_true]; unfold inB; simp; omega
  have CW := num_writes s n
  unfold padE padX
  have hin' : ¬ ((inB 0 8 s && inB 0 12 wd) = false) := by rw [hin]; simp
  rw [if_neg hin', if_neg hin']
  clear hin'
  by_cases hn : inS s n = false
  · rw [if_pos hn, if_pos hn]
    rw [hn] at CW
    have CW := Lib.hid CW
    clear hin
    go_enter Tryd.func6, Tryd.ntmps6
    go_wp2_with fail
    refine (CW.out _).mono ?_
    rintro e w2 ⟨rfl, rfl⟩
    go_wp2_with fail
    go_ret2
    exact ⟨rfl, Below.refl _ _⟩
  rw [if_neg hn, if_neg hn]
  have hn' : inS s n = true := by simpa using hn
  rw [hn'] at CW
  have CW := Lib.hid CW
  obtain ⟨b1, b2, -, -, -⟩ := inS_bounds hn'
  have CI := Lib.hid (lib_Itoa n w (by omega) (by omega) hp)
  have HZ := Lib.hid hz; have HU := Lib.hid hu
  obtain ⟨c1, c2⟩ := cut_itoa n
  have CC := fun W => Any.strings_CutPrefix { Tryd.laysn103 with } (itoaS n) ⟨#[45]⟩ W
  have lD := dd_len n b1 b2
  have hasc : ∀ c ∈ Lib.decDigits n.natAbs, c.toNat < 128 := dd_ascii _
  rw [itoaS_list, show (⟨#[45]⟩ : ByteArray).data.toList = [45] from rfl, c1, c2] at CC
  have CD := fun (l : List UInt8) (W : World) (hl : l.length ≤ 1000) (ha : ∀ c ∈ l, c.toNat < 128) (hb : Below w.heap.size w W) => by
    have := num_digits s.toNat l W (by omega) hl ha (HZ.out.below hb) (Utf8Tabs_below HU.out hb)
    rw [show ((s.toNat : Nat) : Int) = s by omega] at this
    exact this
  have HP := show padT n wd.toNat = (if n < 0 then [45] else []) ++ (List.replicate (wd.toNat - (Lib.decDigits n.natAbs).length) 48 ++ Lib.decDigits n.natAbs) from rfl
  generalize Lib.decDigits n.natAbs = D at CC lD hasc HP
  generalize zeroOf s.toNat = Z at CD ⊢
  replace CD := Lib.hid CD
  have hsz : (⟨D.toArray⟩ : ByteArray).size = D.length := by show D.toArray.size = _; simp
  clear hz hu hp hin hn hn' c1 c2 b1 b2
  by_cases hneg : n < 0
  · rw [decide_eq_true hneg] at CC
    rw [if_pos hneg] at HP
    have CC2 : (∀ W, Calls Tryd.prog 17 #[.string (itoaS n), .string ⟨#[45]⟩] W fun e w' => e = .returned (.tuple #[.string ⟨D.toArray⟩, .bool true]) ∧ w' = W) := CC
    clear CC
    have CC := Lib.hid CC2
    clear CC2
    by_cases hl : (D.length : Int) < wd
    · have d1 : ((⟨D.toArray⟩ : ByteArray).size : Int) < wd := by omega
      have CR := fun W => lib_Repeat1 48 (wd - D.length) W (by omega) (by omega)
      rw [show (wd - (D.length : Int)).toNat = wd.toNat - D.length by omega] at CR
      have lR : (List.replicate (wd.toNat - D.length) (48 : UInt8)).length ≤ 12 := by rw [List.length_replicate]; omega
      have aR : ∀ c ∈ List.replicate (wd.toNat - D.length) (48 : UInt8), c.toNat < 128 := fun c hc => by rw [List.eq_of_mem_replicate hc]; decide
      generalize List.replicate (wd.toNat - D.length) (48 : UInt8) = R at CR lR aR HP
      rw [show (D.length : Int) = ((⟨D.toArray⟩ : ByteArray).size : Int) by omega] at CR
      replace CR := Lib.hid CR
      have a1 := addL R D _ rfl (by rw [List.length_append]; omega)
      have aT : ∀ c ∈ R ++ D, c.toNat < 128 := fun c hc => (List.mem_append.1 hc).elim (aR c) (hasc c)
      have lT : (R ++ D).length ≤ 33 := by rw [List.length_append]; omega
      generalize R ++ D = T at a1 aT lT HP
      have a2 := addL [45] T _ rfl (by rw [List.length_append]; simp only [List.length_cons, List.length_nil]; omega)
      have HA := Lib.hid (show ∀ c ∈ [45] ++ T, c.toNat < 128 from fun c hc => (List.mem_append.1 hc).elim (fun h => by rw [List.mem_singleton.1 h]; decide) (aT c))
      have HL := Lib.hid (show ([45] ++ T).length ≤ 1000 by rw [List.length_append]; simp only [List.length_cons, List.length_nil]; omega)
      generalize ([45] : List UInt8) ++ T = T2 at a2 HA HL HP
      have HPP := Lib.hid HP
      clear HP lT aT lR aR lD hasc hsz
      go_enter Tryd.func6, Tryd.ntmps6
      go_wp2_with fail
      refine (CW.out _).mono ?_
      rintro e w1 ⟨rfl, rfl⟩
      go_wp2_with fail
      refine CI.out.mono ?_
      rintro e w2 ⟨rfl, b⟩
      have B2 := Lib.hid b; clear b
      go_wp2_with fail
      refine (CC.out _).mono ?_
      rintro e w3 ⟨rfl, rfl⟩
      go_wp2_with fail
      refine (CR.out _).mono ?_
      rintro e w4 ⟨rfl, b⟩
      have B2 := Lib.hid (below_then B2.out b); clear b
      go_wp2_with fail
      refine (CD.out _ _ HL.out HA.out B2.out).mono ?_
      rintro e w5 ⟨rfl, b⟩
      have B5 := Lib.hid (below_then B2.out b); clear b
      go_wp2_with fail
      go_ret2
      exact ⟨by rw [HPP.out]; rfl, B5.out⟩
    · have d1 : ¬ ((⟨D.toArray⟩ : ByteArray).size : Int) < wd := by omega
      rw [show wd.toNat - D.length = 0 by omega] at HP
      replace HP : padT n wd.toNat = [45] ++ D := HP
      have a2 := addL [45] D _ rfl (by rw [List.length_append]; simp only [List.length_cons, List.length_nil]; omega)
      have HA := Lib.hid (show ∀ c ∈ [45] ++ D, c.toNat < 128 from fun c hc => (List.mem_append.1 hc).elim (fun h => by rw [List.mem_singleton.1 h]; decide) (hasc c))
      have HL := Lib.hid (show ([45] ++ D).length ≤ 1000 by rw [List.length_append]; simp only [List.length_cons, List.length_nil]; omega)
      generalize ([45] : List UInt8) ++ D = T2 at a2 HA HL HP
      have HPP := Lib.hid HP
      clear HP lD hasc hsz
      go_enter Tryd.func6, Tryd.ntmps6
      go_wp2_with fail
      refine (CW.out _).mono ?_
      rintro e w1 ⟨rfl, rfl⟩
      go_wp2_with fail
      refine CI.out.mono ?_
      rintro e w2 ⟨rfl, b⟩
      have B2 := Lib.hid b; clear b
      go_wp2_with fail
      refine (CC.out _).mono ?_
      rintro e w3 ⟨rfl, rfl⟩
      go_wp2_with fail
      refine (CD.out _ _ HL.out HA.out B2.out).mono ?_
      rintro e w5 ⟨rfl, b⟩
      have B5 := Lib.hid (below_then B2.out b); clear b
      go_wp2_with fail
      go_ret2
      exact ⟨by rw [HPP.out]; rfl, B5.out⟩
  · rw [decide_eq_false hneg] at CC
    rw [if_neg hneg, List.nil_append] at HP
    have CC2 : (∀ W, Calls Tryd.prog 17 #[.string (itoaS n), .string ⟨#[45]⟩] W fun e w' => e = .returned (.tuple #[.string ⟨D.toArray⟩, .bool false]) ∧ w' = W) := CC
    clear CC
    have CC := Lib.hid CC2
    clear CC2
    by_cases hl : (D.length : Int) < wd
    · have d1 : ((⟨D.toArray⟩ : ByteArray).size : Int) < wd := by omega
      have CR := fun W => lib_Repeat1 48 (wd - D.length) W (by omega) (by omega)
      rw [show (wd - (D.length : Int)).toNat = wd.toNat - D.length by omega] at CR
      have lR : (List.replicate (wd.toNat - D.length) (48 : UInt8)).length ≤ 12 := by rw [List.length_replicate]; omega
      have aR : ∀ c ∈ List.replicate (wd.toNat - D.length) (48 : UInt8), c.toNat < 128 := fun c hc => by rw [List.eq_of_mem_replicate hc]; decide
      generalize List.replicate (wd.toNat - D.length) (48 : UInt8) = R at CR lR aR HP
      rw [show (D.length : Int) = ((⟨D.toArray⟩ : ByteArray).size : Int) by omega] at CR
      replace CR := Lib.hid CR
      have a1 := addL R D _ rfl (by rw [List.length_append]; omega)
      have aT : ∀ c ∈ R ++ D, c.toNat < 128 := fun c hc => (List.mem_append.1 hc).elim (aR c) (hasc c)
      have lT : (R ++ D).length ≤ 33 := by rw [List.length_append]; omega
      generalize R ++ D = T at a1 aT lT HP
      have HA := Lib.hid aT
      have HL := Lib.hid (show T.length ≤ 1000 by omega)
      have HPP := Lib.hid HP
      clear HP lT aT lR aR lD hasc hsz
      go_enter Tryd.func6, Tryd.ntmps6
      go_wp2_with fail
      refine (CW.out _).mono ?_
      rintro e w1 ⟨rfl, rfl⟩
      go_wp2_with fail
      refine CI.out.mono ?_
      rintro e w2 ⟨rfl, b⟩
      have B2 := Lib.hid b; clear b
      go_wp2_with fail
      refine (CC.out _).mono ?_
      rintro e w3 ⟨rfl, rfl⟩
      go_wp2_with fail
      refine (CR.out _).mono ?_
      rintro e w4 ⟨rfl, b⟩
      have B2 := Lib.hid (below_then B2.out b); clear b
      go_wp2_with fail
      refine (CD.out _ _ HL.out HA.out B2.out).mono ?_
      rintro e w5 ⟨rfl, b⟩
      have B5 := Lib.hid (below_then B2.out b); clear b
      go_wp2_with fail
      go_ret2
      exact ⟨by rw [HPP.out]; rfl, B5.out⟩
    · have d1 : ¬ ((⟨D.toArray⟩ : ByteArray).size : Int) < wd := by omega
      rw [show wd.toNat - D.length = 0 by omega] at HP
      replace HP : padT n wd.toNat = D := HP
      have HA := Lib.hid hasc
      have HL := Lib.hid (show D.length ≤ 1000 by omega)
      have HPP := Lib.hid HP
      clear HP lD hasc hsz
      go_enter Tryd.func6, Tryd.ntmps6
      go_wp2_with fail
      refine (CW.out _).mono ?_
      rintro e w1 ⟨rfl, rfl⟩
      go_wp2_with fail
      refine CI.out.mono ?_
      rintro e w2 ⟨rfl, b⟩
      have B2 := Lib.hid b; clear b
      go_wp2_with fail
      refine (CC.out _).mono ?_
      rintro e w3 ⟨rfl, rfl⟩
      go_wp2_with fail
      refine (CD.out _ _ HL.out HA.out B2.out).mono ?_
      rintro e w5 ⟨rfl, b⟩
      have B5 := Lib.hid (below_then B2.out b); clear b
      go_wp2_with fail
      go_ret2
      exact ⟨by rw [HPP.out]; rfl, B5.out⟩
end Go.Proofs.YticflmepmmdnfabDoor
