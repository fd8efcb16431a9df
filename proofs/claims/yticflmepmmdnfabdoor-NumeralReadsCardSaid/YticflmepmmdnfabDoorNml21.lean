/- Reading numerals in positional scripts and the reference's reader, plain. No model in this text. -/
import Derived.Test.YticflmepmmdnfabDoorNml20
namespace Go.Proofs.YticflmepmmdnfabDoor
set_option linter.unusedVariables false
set_option linter.unusedSimpArgs false
set_option maxRecDepth 100000
open Nml

theorem full_digit (k : Nat) (hk : k < 9) (c : UInt8) (h : Num.isDig c = true) (rest : List UInt8) : Lib.decodeL (enc1 (zeroOf k) c ++ rest) = (zeroOf k + (c.toNat - 48), (enc1 (zeroOf k) c).length) := by
  rw [enc1_digit _ c h]
  have hd2 : 48 ≤ c.toNat ∧ c.toNat ≤ 57 := by unfold Num.isDig at h; simpa using h
  rcases zero_cases k hk with e | e | e | e | e
  · exact full_one _ (by omega) rest
  · exact full_two _ (by omega) (by omega) rest
  · exact full_two _ (by omega) (by omega) rest
  · exact full_three _ (by omega) rest
  · exact full_three _ (by omega) rest

theorem len_digits (k : Nat) (hk : k < 9) : ∀ (D : List UInt8) (f i t : Nat) (b : Bool), (∀ c ∈ D, Num.isDig c = true) → D.length ≤ f → Num.natFrom t D ≤ 1099511627776 →
    lenGo (k : Int) f i (posL (zeroOf k) D) ⟨(t : Int), 0, 0, b⟩ = some ⟨(Num.natFrom t D : Int), 0, 0, b⟩
  | [], f, i, t, b, _, _, _ => lenGo_nil _ _ _ _
  | c :: r, 0, i, t, b, _, hf, _ => by simp at hf
  | c :: r, f + 1, i, t, b, h, hf, hb => by
    have hc := h c (by simp)
    have hd2 : 48 ≤ c.toNat ∧ c.toNat ≤ 57 := by unfold Num.isDig at hc; simpa using hc
    have h1 := enc1_pos k hk c hc
    obtain ⟨z1, z2⟩ := zero_bounds k
    have e : posL (zeroOf k) (c :: r) = enc1 (zeroOf k) c ++ posL (zeroOf k) r := by simp [posL]
    have hd := full_digit k hk c hc (posL (zeroOf k) r)
    have hne : enc1 (zeroOf k) c ++ posL (zeroOf k) r ≠ [] := by
      intro e2; have := congrArg List.length e2; rw [List.length_append, List.length_nil] at this; omega
    have hge := Num.natFrom_ge r (10 * t + (c.toNat - 48))
    have hb' : Num.natFrom (10 * t + (c.toNat - 48)) r ≤ 1099511627776 := hb
    have hv : valP (k : Int) (zeroOf k + (c.toNat - 48)) = posV (zeroOf k) (zeroOf k + (c.toNat - 48)) := by
      unfold valP
      rw [if_neg (by omega), if_neg (by omega), if_neg (by omega), if_neg (by omega)]
      rfl
    have hv2 : posV (zeroOf k) (zeroOf k + (c.toNat - 48)) = (((c.toNat - 48 : Nat) : Int), true) := by
      unfold posV
      rw [show decide (zeroOf k ≤ zeroOf k + (c.toNat - 48)) = true from decide_eq_true (by omega), show decide (zeroOf k + (c.toNat - 48) < zeroOf k + 10) = true from decide_eq_true (by omega)]
      simp; omega
    have hs : lenStep (k : Int) i (zeroOf k + (c.toNat - 48)) ⟨(t : Int), 0, 0, b⟩ = some ⟨((10 * t + (c.toNat - 48) : Nat) : Int), 0, 0, b⟩ := by
      unfold lenStep lenStepV
      rw [hv, hv2, if_neg (by simp; omega), if_neg (by omega), if_neg (by omega), if_neg (by omega), if_neg (by omega)]
      simp; omega
    rw [e, lenGo_step _ _ _ _ _ hne, hd]
    simp only []
    rw [hs]
    simp only []
    rw [List.drop_left]
    exact len_digits k hk r f _ _ b (fun x hx => h x (by simp [hx])) (by simp at hf; omega) hb'
theorem len_pos (k : Nat) (hk : k < 9) (n : Int) (h0 : -2147483647 ≤ n) (h1 : n ≤ 2147483647) : lenP (k : Int) (posL (zeroOf k) (Lib.itoa n)) = (n, true) := by
  obtain ⟨z1, z2⟩ := zero_bounds k
  have hdd := Num.dd_dig n.natAbs
  have hnat : Num.natFrom 0 (Lib.decDigits n.natAbs) = n.natAbs := Num.natOf_dd n.natAbs
  have hge := posL_ge k hk (Lib.decDigits n.natAbs) hdd
  have hne := Num.dd_ne n.natAbs
  by_cases h : n < 0
  · have e : Lib.itoa n = 45 :: Lib.decDigits n.natAbs := by unfold Lib.itoa; rw [if_pos h]
    have e2 : posL (zeroOf k) (45 :: Lib.decDigits n.natAbs) = 45 :: posL (zeroOf k) (Lib.decDigits n.natAbs) := by simp [posL, enc1]
    rw [e, e2]
    have key := len_digits k hk (Lib.decDigits n.natAbs) (posL (zeroOf k) (Lib.decDigits n.natAbs)).length 1 0 true hdd hge (by rw [hnat]; omega)
    rw [hnat] at key
    have hs : lenStep (k : Int) 0 45 ⟨0, 0, 0, false⟩ = some ⟨0, 0, 0, true⟩ := by
      unfold lenStep lenStepV
      have : (valP (k : Int) 45).2 = true := by
        unfold valP
        rw [if_neg (by omega), if_neg (by omega), if_neg (by omega), if_neg (by omega)]
        unfold posV; simp
      rw [this, if_neg (by simp), if_neg (by omega), if_neg (by omega), if_neg (by omega), if_pos rfl, if_neg (by omega)]
    unfold lenP
    rw [List.length_cons, lenGo_step _ _ _ _ _ (by simp), Lib.decodeL_ascii 45 _ (by decide)]
    simp only []
    rw [show (45 : UInt8).toNat = 45 from rfl, hs]
    simp only [List.drop_succ_cons, List.drop_zero]
    rw [show ((0 : Nat) + 1) = 1 from rfl, show (⟨0, 0, 0, true⟩ : LSt) = ⟨((0 : Nat) : Int), 0, 0, true⟩ from rfl, key]
    simp [lenEnd]; omega
  · have e : Lib.itoa n = Lib.decDigits n.natAbs := by unfold Lib.itoa; rw [if_neg h, show n.toNat = n.natAbs by omega]
    rw [e]
    have key := len_digits k hk (Lib.decDigits n.natAbs) (posL (zeroOf k) (Lib.decDigits n.natAbs)).length 0 0 false hdd hge (by rw [hnat]; omega)
    rw [hnat] at key
    have hnil : (posL (zeroOf k) (Lib.decDigits n.natAbs)).isEmpty = false := by
      cases hq : posL (zeroOf k) (Lib.decDigits n.natAbs) with
      | nil =>
        rw [hq] at hge
        cases hD : Lib.decDigits n.natAbs with
        | nil => exact absurd hD hne
        | cons a b => rw [hD] at hge; simp at hge
      | cons a b => rfl
    unfold lenP
    rw [show (⟨0, 0, 0, false⟩ : LSt) = ⟨((0 : Nat) : Int), 0, 0, false⟩ from rfl, key, hnil]
    simp [lenEnd]; omega
/-- What Lenient reads of a text that is written. -/
theorem len_numT (s n : Int) (hs : inB 0 12 s = true) (hn : inS s n = true) : lenP s (numT s n) = (n, true) := by
  obtain ⟨b1, b2, b9, b10, b12⟩ := inS_bounds hn
  obtain ⟨s0, s1⟩ := inB_iff.1 hs
  unfold numT
  by_cases h9 : s = 9
  · obtain ⟨c1, c2⟩ := b9 h9
    rw [if_pos h9, h9]
    have := len_rom n.toNat (by omega) (by omega)
    rw [this]; simp; omega
  rw [if_neg h9]
  by_cases h10 : s = 10
  · obtain ⟨c1, c2⟩ := b10 (.inl h10)
    rw [if_pos h10, h10]
    have := len_sigG n.toNat (by omega) (by omega)
    rw [this]; simp; omega
  rw [if_neg h10]
  by_cases h11 : s = 11
  · obtain ⟨c1, c2⟩ := b10 (.inr h11)
    rw [if_pos h11, h11]
    have := len_sigH n.toNat (by omega) (by omega)
    rw [this]; simp; omega
  rw [if_neg h11]
  by_cases h12 : s = 12
  · obtain ⟨c1, c2⟩ := b12 h12
    rw [if_pos h12, h12]
    have := len_ch n.toNat (by omega)
    rw [this]; simp; omega
  rw [if_neg h12]
  have := len_pos s.toNat (by omega) n b1 b2
  rwa [show ((s.toNat : Nat) : Int) = s by omega] at this
end Go.Proofs.YticflmepmmdnfabDoor
