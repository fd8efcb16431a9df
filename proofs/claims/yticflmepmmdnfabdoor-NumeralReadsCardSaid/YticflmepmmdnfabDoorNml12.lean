/- Counting the runes of a text in positional digits; plain. -/
import Derived.Test.YticflmepmmdnfabDoorNml9
import Derived.Test.YticflmepmmdnfabDoorNml8
import Derived.Lib.RuneCount
import Derived.Lib.TrimUEq
namespace Go.Proofs.YticflmepmmdnfabDoor
set_option linter.unusedVariables false
set_option linter.unusedSimpArgs false
set_option maxRecDepth 100000
open Go.RowKit Go.Shelf Nml

theorem u8_nat (x : Nat) (h : x < 256) : (x.toUInt8).toNat = x := by show x % 256 = x; omega
theorem dec_one (r : Nat) (h : r ≤ 127) (rest : List UInt8) : (Lib.decodeL (Lib.encodeRune (r : Int) ++ rest)).2 = (Lib.encodeRune (r : Int)).length := by
  have e : Lib.encodeRune (r : Int) = [r.toUInt8] := by
    unfold Lib.encodeRune; rw [Lib.encodeRuneZ_one (by omega) (by omega)]; rfl
  rw [e]
  show (Lib.decodeL (r.toUInt8 :: rest)).2 = 1
  rw [Lib.decodeL_ascii _ _ (by rw [u8_nat r (by omega)]; omega)]
theorem dec_two (r : Nat) (h : 128 ≤ r) (h2 : r ≤ 2047) (rest : List UInt8) : (Lib.decodeL (Lib.encodeRune (r : Int) ++ rest)).2 = (Lib.encodeRune (r : Int)).length := by
  have e : Lib.encodeRune (r : Int) = [(192 + r / 64).toUInt8, (128 + r % 64).toUInt8] := by
    unfold Lib.encodeRune; rw [Lib.encodeRuneZ_two (by omega) (by omega)]
    simp only [List.map_cons, List.map_nil]
    rw [show ((192 : Int) + (r : Int) / 64).toNat = 192 + r / 64 by omega, show ((128 : Int) + (r : Int) % 64).toNat = 128 + r % 64 by omega]
  rw [e, Lib.decodeL_N]
  have e0 : (([(192 + r / 64).toUInt8, (128 + r % 64).toUInt8] ++ rest).getD 0 0).toNat = 192 + r / 64 := by show ((192 + r / 64).toUInt8).toNat = _; rw [u8_nat _ (by omega)]
  have e1 : (([(192 + r / 64).toUInt8, (128 + r % 64).toUInt8] ++ rest).getD 1 0).toNat = 128 + r % 64 := by show ((128 + r % 64).toUInt8).toNat = _; rw [u8_nat _ (by omega)]
  rw [e0, e1]
  have hn : 1 < ([(192 + r / 64).toUInt8, (128 + r % 64).toUInt8] ++ rest).length := by simp
  unfold Lib.decodeN
  rw [if_neg (by omega), if_pos ⟨by omega, hn, by omega⟩, if_pos (by omega)]
  rfl
theorem dec_three (r : Nat) (h : (2048 ≤ r ∧ r < 55296) ∨ (57343 < r ∧ r ≤ 65535)) (rest : List UInt8) : (Lib.decodeL (Lib.encodeRune (r : Int) ++ rest)).2 = (Lib.encodeRune (r : Int)).length := by
  have e : Lib.encodeRune (r : Int) = [(224 + r / 4096).toUInt8, (128 + r / 64 % 64).toUInt8, (128 + r % 64).toUInt8] := by
    unfold Lib.encodeRune; rw [Lib.encodeRuneZ_three (by omega)]
    simp only [List.map_cons, List.map_nil]
    rw [show ((224 : Int) + (r : Int) / 4096).toNat = 224 + r / 4096 by omega, show ((128 : Int) + (r : Int) / 64 % 64).toNat = 128 + r / 64 % 64 by omega, show ((128 : Int) + (r : Int) % 64).toNat = 128 + r % 64 by omega]
  rw [e, Lib.decodeL_N]
  have e0 : (([(224 + r / 4096).toUInt8, (128 + r / 64 % 64).toUInt8, (128 + r % 64).toUInt8] ++ rest).getD 0 0).toNat = 224 + r / 4096 := by show ((224 + r / 4096).toUInt8).toNat = _; rw [u8_nat _ (by omega)]
  have e1 : (([(224 + r / 4096).toUInt8, (128 + r / 64 % 64).toUInt8, (128 + r % 64).toUInt8] ++ rest).getD 1 0).toNat = 128 + r / 64 % 64 := by show ((128 + r / 64 % 64).toUInt8).toNat = _; rw [u8_nat _ (by omega)]
  have e2 : (([(224 + r / 4096).toUInt8, (128 + r / 64 % 64).toUInt8, (128 + r % 64).toUInt8] ++ rest).getD 2 0).toNat = 128 + r % 64 := by show ((128 + r % 64).toUInt8).toNat = _; rw [u8_nat _ (by omega)]
  rw [e0, e1, e2]
  have hn : 2 < ([(224 + r / 4096).toUInt8, (128 + r / 64 % 64).toUInt8, (128 + r % 64).toUInt8] ++ rest).length := by simp
  have hn1 : 1 < ([(224 + r / 4096).toUInt8, (128 + r / 64 % 64).toUInt8, (128 + r % 64).toUInt8] ++ rest).length := by simp
  have hv : (224 + r / 4096) % 16 * 4096 + (128 + r / 64 % 64) % 64 * 64 + (128 + r % 64) % 64 = r := by omega
  unfold Lib.decodeN
  rw [if_neg (by omega), if_neg (by omega), if_pos ⟨by omega, ⟨hn1, by omega⟩, hn, by omega⟩, hv, if_pos (by omega)]
  rfl
theorem zero_cases (k : Nat) (hk : k < 9) : zeroOf k = 48 ∨ zeroOf k = 1632 ∨ zeroOf k = 1776 ∨ (2048 ≤ zeroOf k ∧ zeroOf k ≤ 6112) ∨ zeroOf k = 65296 := by
  have h2 : k = 0 ∨ k = 1 ∨ k = 2 ∨ k = 3 ∨ k = 4 ∨ k = 5 ∨ k = 6 ∨ k = 7 ∨ k = 8 := by omega
  clear hk
  rcases h2 with rfl | rfl | rfl | rfl | rfl | rfl | rfl | rfl | rfl <;> decide
theorem enc1_digit (z : Nat) (c : UInt8) (h : Num.isDig c = true) : enc1 z c = Lib.encodeRune (((z + (c.toNat - 48) : Nat) : Int)) := by
  have hd2 : 48 ≤ c.toNat ∧ c.toNat ≤ 57 := by unfold Num.isDig at h; simpa using h
  have : c ≠ 45 := fun e => by subst e; exact absurd h (by decide)
  unfold enc1
  rw [if_neg this, show (z : Int) + c.toNat - 48 = ((z + (c.toNat - 48) : Nat) : Int) by omega]
theorem dec_digit (k : Nat) (hk : k < 9) (c : UInt8) (h : Num.isDig c = true) (rest : List UInt8) : (Lib.decodeL (enc1 (zeroOf k) c ++ rest)).2 = (enc1 (zeroOf k) c).length := by
  rw [enc1_digit _ c h]
  have hd2 : 48 ≤ c.toNat ∧ c.toNat ≤ 57 := by unfold Num.isDig at h; simpa using h
  rcases zero_cases k hk with e | e | e | e | e
  · exact dec_one _ (by omega) rest
  · exact dec_two _ (by omega) (by omega) rest
  · exact dec_two _ (by omega) (by omega) rest
  · exact dec_three _ (by omega) rest
  · exact dec_three _ (by omega) rest
theorem enc1_pos (k : Nat) (hk : k < 9) (c : UInt8) (h : Num.isDig c = true) : 1 ≤ (enc1 (zeroOf k) c).length := by
  have := dec_digit k hk c h []
  have h1 := Lib.decodeL_width (enc1 (zeroOf k) c ++ [])
  omega
theorem count_from (k : Nat) (hk : k < 9) : ∀ (l pre : List UInt8) (fuel : Nat), (∀ c ∈ l, Num.isDig c = true) → l.length ≤ fuel → Lib.runeCountFrom ⟨(pre ++ posL (zeroOf k) l).toArray⟩ fuel pre.length = l.length
  | [], pre, fuel, _, _ => Lib.runeCountFrom_end _ _ _ (by show ¬ pre.length < (pre ++ posL (zeroOf k) []).toArray.size; simp [posL])
  | c :: r, pre, 0, _, hf => by simp at hf
  | c :: r, pre, fuel + 1, h, hf => by
    have hc := h c (by simp)
    have h1 := enc1_pos k hk c hc
    have e : posL (zeroOf k) (c :: r) = enc1 (zeroOf k) c ++ posL (zeroOf k) r := by simp [posL]
    have hd : (Utf8.decode ⟨(pre ++ posL (zeroOf k) (c :: r)).toArray⟩ pre.length).2 = (enc1 (zeroOf k) c).length := by
      rw [← Lib.decodeL_drop]
      show (Lib.decodeL ((pre ++ posL (zeroOf k) (c :: r)).drop pre.length)).2 = _
      rw [List.drop_left, e]
      exact dec_digit k hk c hc _
    unfold Lib.runeCountFrom
    rw [if_pos (by show pre.length < (pre ++ posL (zeroOf k) (c :: r)).toArray.size; rw [e]; simp; omega), hd]
    have ih := count_from k hk r (pre ++ enc1 (zeroOf k) c) fuel (fun x hx => h x (by simp [hx])) (by simp at hf; omega)
    rw [List.length_append, List.append_assoc, ← e] at ih
    rw [ih, List.length_cons]; omega
theorem posL_ge (k : Nat) (hk : k < 9) : ∀ l : List UInt8, (∀ c ∈ l, Num.isDig c = true) → l.length ≤ (posL (zeroOf k) l).length
  | [], _ => by simp
  | c :: r, h => by
    have h1 := enc1_pos k hk c (h c (by simp))
    have h2 := posL_ge k hk r (fun x hx => h x (by simp [hx]))
    have e : posL (zeroOf k) (c :: r) = enc1 (zeroOf k) c ++ posL (zeroOf k) r := by simp [posL]
    rw [e, List.length_append, List.length_cons]; omega
theorem count_pos (k : Nat) (hk : k < 9) (l : List UInt8) (h : ∀ c ∈ l, Num.isDig c = true) : Lib.runeCount ⟨(posL (zeroOf k) l).toArray⟩ = l.length := by
  unfold Lib.runeCount
  have e : (⟨(posL (zeroOf k) l).toArray⟩ : ByteArray).size = (posL (zeroOf k) l).length := by show (posL (zeroOf k) l).toArray.size = _; simp
  rw [e]
  exact count_from k hk l [] _ h (posL_ge k hk l h)
/-- No digit begins with the byte of '-'. -/
theorem pre_pos (k : Nat) (hk : k < 9) (l : List UInt8) (h : ∀ c ∈ l, Num.isDig c = true) : Lib.hasPrefix (posL (zeroOf k) l) [45] = false := by
  cases l with
  | nil => rfl
  | cons c r =>
    have hc := h c (by simp)
    have e : posL (zeroOf k) (c :: r) = enc1 (zeroOf k) c ++ posL (zeroOf k) r := by simp [posL]
    rw [e, enc1_digit _ c hc]
    have hd2 : 48 ≤ c.toNat ∧ c.toNat ≤ 57 := by unfold Num.isDig at hc; simpa using hc
    have key := allU_of 10 _ (allU_of 9 (fun k => allU 10 fun d => match Lib.encodeRune ((zeroOf k + d : Nat) : Int) with | b :: _ => b != 45 | [] => false) (by decide +kernel) k hk) (c.toNat - 48) (by omega)
    cases hE : Lib.encodeRune ((zeroOf k + (c.toNat - 48) : Nat) : Int) with
    | nil => rw [hE] at key; cases key
    | cons b t =>
      rw [hE] at key
      have hb : (b != 45) = true := key
      show ((45 : UInt8) == b && ([] : List UInt8).isPrefixOf _) = false
      have : ((45 : UInt8) == b) = false := by rw [beq_eq_false_iff_ne]; intro e; subst e; simp at hb
      rw [this]; rfl
theorem pos_itoa (k : Nat) (hk : k < 9) (n : Int) : Lib.hasPrefix (posL (zeroOf k) (Lib.itoa n)) [45] = decide (n < 0) ∧ Lib.trimPrefix (posL (zeroOf k) (Lib.itoa n)) [45] = posL (zeroOf k) (Lib.decDigits n.natAbs) := by
  by_cases h : n < 0
  · have e : Lib.itoa n = 45 :: Lib.decDigits n.natAbs := by unfold Lib.itoa; rw [if_pos h]
    have e2 : posL (zeroOf k) (45 :: Lib.decDigits n.natAbs) = 45 :: posL (zeroOf k) (Lib.decDigits n.natAbs) := by simp [posL, enc1]
    have hp : Lib.hasPrefix (45 :: posL (zeroOf k) (Lib.decDigits n.natAbs)) [45] = true := by
      show ((45 : UInt8) == 45 && ([] : List UInt8).isPrefixOf (posL (zeroOf k) (Lib.decDigits n.natAbs))) = true
      simp
    rw [e, e2]
    refine ⟨by rw [hp, decide_eq_true h], ?_⟩
    unfold Lib.trimPrefix
    rw [hp, if_pos rfl]; rfl
  · have e : Lib.itoa n = Lib.decDigits n.natAbs := by unfold Lib.itoa; rw [if_neg h, show n.toNat = n.natAbs by omega]
    have hp := pre_pos k hk (Lib.decDigits n.natAbs) (Num.dd_dig _)
    rw [e]
    refine ⟨by rw [hp, decide_eq_false h], ?_⟩
    unfold Lib.trimPrefix
    rw [hp, if_neg (by simp)]
end Go.Proofs.YticflmepmmdnfabDoor
