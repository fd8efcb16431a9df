/- Decimal numerals, plain: what strconv.Itoa writes is read back by strconv.Atoi and by the reference's Plain, and what Plain reads is what Itoa writes. No model in this text. -/
import Derived.Lib.ItoaNum
import Derived.Lib.AtoiAll
import Derived.Lib.AtoiAllCases
namespace Go.Proofs.YthpiiocncdpimaaDoor.Num
set_option linter.unusedVariables false
set_option linter.unusedSimpArgs false
open Go.Lib

def isDig (c : UInt8) : Bool := decide (48 ≤ c.toNat) && decide (c.toNat ≤ 57)
def natFrom (a : Nat) (l : List UInt8) : Nat := l.foldl (fun a c => 10 * a + (c.toNat - 48)) a
def natOf (l : List UInt8) : Nat := natFrom 0 l

theorem natFrom_snoc (a : Nat) (l : List UInt8) (c : UInt8) : natFrom a (l ++ [c]) = 10 * natFrom a l + (c.toNat - 48) := by
  simp [natFrom]
theorem natOf_snoc (l : List UInt8) (c : UInt8) : natOf (l ++ [c]) = 10 * natOf l + (c.toNat - 48) := natFrom_snoc 0 l c
theorem natFrom_ge : ∀ (l : List UInt8) (a : Nat), a ≤ natFrom a l
  | [], a => Nat.le_refl _
  | c :: r, a => by
    have := natFrom_ge r (10 * a + (c.toNat - 48))
    show a ≤ natFrom (10 * a + (c.toNat - 48)) r
    omega
theorem ofNat_toNat (k : Nat) (h : k < 256) : (UInt8.ofNat k).toNat = k := by simp; omega
theorem dig_ofNat (k : Nat) (h : k < 10) : isDig (UInt8.ofNat (48 + k)) = true := by
  unfold isDig; rw [ofNat_toNat _ (by omega)]; simp; omega
theorem dd_snoc (u : Nat) (h : ¬ u < 10) : decDigits u = decDigits (u / 10) ++ [UInt8.ofNat (48 + u % 10)] := by
  rw [decDigits, dif_neg h]
theorem dd_one (u : Nat) (h : u < 10) : decDigits u = [UInt8.ofNat (48 + u)] := by rw [decDigits, dif_pos h]

theorem dd_dig (u : Nat) : ∀ c ∈ decDigits u, isDig c = true := by
  induction u using Nat.strongRecOn with
  | _ u ih =>
    by_cases h : u < 10
    · rw [dd_one u h]; intro c hc; rw [List.mem_singleton] at hc; subst hc; exact dig_ofNat u h
    · rw [dd_snoc u h]; intro c hc; rw [List.mem_append] at hc
      rcases hc with hc | hc
      · exact ih (u / 10) (by omega) c hc
      · rw [List.mem_singleton] at hc; subst hc; exact dig_ofNat _ (by omega)
theorem dd_ne (u : Nat) : decDigits u ≠ [] := by
  by_cases h : u < 10
  · rw [dd_one u h]; simp
  · rw [dd_snoc u h]; simp
theorem natOf_dd (u : Nat) : natOf (decDigits u) = u := by
  induction u using Nat.strongRecOn with
  | _ u ih =>
    by_cases h : u < 10
    · rw [dd_one u h]; show 10 * 0 + ((UInt8.ofNat (48 + u)).toNat - 48) = u
      rw [ofNat_toNat _ (by omega)]; omega
    · rw [dd_snoc u h, natOf_snoc, ih (u / 10) (by omega), ofNat_toNat _ (by omega)]; omega
theorem dd_head (u : Nat) (h0 : u ≠ 0) : ∀ c r, decDigits u = c :: r → c.toNat ≠ 48 := by
  induction u using Nat.strongRecOn with
  | _ u ih =>
    intro c r he
    by_cases h : u < 10
    · rw [dd_one u h] at he; injection he with h1 h2; subst h1; rw [ofNat_toNat _ (by omega)]; omega
    · rw [dd_snoc u h] at he
      rcases hd : decDigits (u / 10) with _ | ⟨c', r'⟩
      · exact absurd hd (dd_ne _)
      · rw [hd] at he; injection he with h1 h2; subst h1; exact ih (u / 10) (by omega) (by omega) _ _ hd
theorem dd_zero : decDigits 0 = [48] := by rw [dd_one 0 (by omega)]; rfl
/-- Digits without a leading zero are the numeral of what they spell. -/
theorem dd_of : ∀ (n : Nat) (l : List UInt8), l.length = n → l ≠ [] → (∀ c ∈ l, isDig c = true) → (∀ c r, l = c :: r → r ≠ [] → c.toNat ≠ 48) → decDigits (natOf l) = l ∧ (1 < l.length → natOf l ≠ 0) := by
  intro n
  induction n with
  | zero => intro l hl hn; exact absurd (List.length_eq_zero_iff.1 hl) hn
  | succ n ih =>
    intro l hl hn hd hh
    obtain ⟨p, c, rfl⟩ : ∃ p c, l = p ++ [c] := ⟨l.dropLast, l.getLast hn, (List.dropLast_concat_getLast hn).symm⟩
    have hc := hd c (by simp)
    have hc' : 48 ≤ c.toNat ∧ c.toNat ≤ 57 := by unfold isDig at hc; simpa using hc
    have he : UInt8.ofNat (48 + (c.toNat - 48)) = c := by
      rw [show 48 + (c.toNat - 48) = c.toNat by omega]; simp
    rcases p with _ | ⟨b, p⟩
    · constructor
      · rw [natOf_snoc]; show decDigits (10 * 0 + (c.toNat - 48)) = _
        rw [dd_one _ (by omega), Nat.mul_zero, Nat.zero_add, he]; rfl
      · intro h; simp at h
    · have hb := hh b (p ++ [c]) rfl (by simp)
      obtain ⟨h1, h2⟩ := ih (b :: p) (by simpa using hl) (by simp) (fun x hx => hd x (by simp at hx ⊢; rcases hx with rfl | hx <;> simp [*])) (fun x r he _ => by injection he with e1 _; subst e1; exact hb)
      have hz : natOf (b :: p) ≠ 0 := by
        have hb' := hd b (by simp)
        have hb2 : 48 ≤ b.toNat ∧ b.toNat ≤ 57 := by unfold isDig at hb'; simpa using hb'
        have := natFrom_ge p (10 * 0 + (b.toNat - 48))
        show natFrom (10 * 0 + (b.toNat - 48)) p ≠ 0
        omega
      rw [natOf_snoc]
      refine ⟨?_, fun _ => by omega⟩
      rw [dd_snoc _ (by omega), show (10 * natOf (b :: p) + (c.toNat - 48)) / 10 = natOf (b :: p) by omega, h1, show (10 * natOf (b :: p) + (c.toNat - 48)) % 10 = c.toNat - 48 by omega, he]

theorem parse_digits : ∀ (l : List UInt8) (a : Nat), (∀ c ∈ l, isDig c = true) → natFrom a l < 18446744073709551616 → parseUint10 a l = .ok (natFrom a l)
  | [], a, _, _ => rfl
  | c :: r, a, hd, hn => by
    have hc := hd c (by simp)
    have hc' : 48 ≤ c.toNat ∧ c.toNat ≤ 57 := by unfold isDig at hc; simpa using hc
    have hn' : natFrom (10 * a + (c.toNat - 48)) r < 18446744073709551616 := hn
    have hg := natFrom_ge r (10 * a + (c.toNat - 48))
    rw [parseUint10, if_pos hc', if_neg (by omega), if_neg (by omega), show a * 10 + (c.toNat - 48) = 10 * a + (c.toNat - 48) by omega,
      parse_digits r _ (fun x hx => hd x (by simp [hx])) hn']
    rfl
theorem parseMag_dd (u : Nat) (h : u < 18446744073709551616) : parseMag (decDigits u) = .ok u := by
  rw [parseMag, if_neg (dd_ne u), parse_digits _ 0 (dd_dig u) (by rw [show natFrom 0 (decDigits u) = u from natOf_dd u]; exact h), show natFrom 0 (decDigits u) = u from natOf_dd u]
/-- What Itoa writes, Atoi reads. -/
theorem atoi_itoa (n : Int) (h0 : -9223372036854775808 ≤ n) (h1 : n ≤ 9223372036854775807) : atoiAll (itoa n) = .ok n := by
  unfold itoa
  by_cases h : n < 0
  · rw [if_pos h, atoiAll_minus, parseMag_dd _ (by omega)]
    unfold signed
    show (if 9223372036854775808 < n.natAbs then NumEnd.range else NumEnd.ok (-(n.natAbs : Int))) = _
    rw [if_neg (by omega)]
    congr 1; omega
  · rw [if_neg h]
    rcases hd : decDigits n.toNat with _ | ⟨c, r⟩
    · exact absurd hd (dd_ne _)
    · have hc := dd_dig n.toNat c (by rw [hd]; simp)
      have hc' : 48 ≤ c.toNat ∧ c.toNat ≤ 57 := by unfold isDig at hc; simpa using hc
      rw [atoiAll_plain c r (by omega) (by omega), ← hd, parseMag_dd _ (by omega)]
      unfold signless
      show (if 9223372036854775808 ≤ n.toNat then NumEnd.range else NumEnd.ok (n.toNat : Int)) = _
      rw [if_neg (by omega)]
      congr 1; omega

/-- The reference's Plain: the digits behind a sign that may be there. -/
def minusOf (l : List UInt8) : Bool := match l with | c :: _ => c == 45 | [] => false
def bare (l : List UInt8) : List UInt8 := if minusOf l then l.drop 1 else l
def digitsB (l : List UInt8) : Bool := !l.isEmpty && !(decide (1 < l.length) && (l.getD 0 0 == 48)) && l.all isDig
def plainOk (l : List UInt8) : Bool := digitsB (bare l) && decide ((bare l).length ≤ 17) && !(l == [45, 48])
def plainNum (l : List UInt8) : Int := if plainOk l then (if minusOf l then -(natOf (bare l) : Int) else (natOf (bare l) : Int)) else 0

theorem digitsB_dd (u : Nat) : digitsB (decDigits u) = true := by
  unfold digitsB
  rw [Bool.and_eq_true, Bool.and_eq_true]
  refine ⟨⟨?_, ?_⟩, List.all_eq_true.2 (dd_dig u)⟩
  · have := dd_ne u; cases h : decDigits u <;> simp_all
  · by_cases h0 : u = 0
    · subst h0; rw [dd_zero]; rfl
    · cases h : decDigits u with
      | nil => rfl
      | cons c r =>
        have := dd_head u h0 c r h
        have e : (c == (48 : UInt8)) = false := by
          rw [beq_eq_false_iff_ne]; intro he; subst he; exact this rfl
        simp [e]
theorem dd_of_digits {l : List UInt8} (h : digitsB l = true) : decDigits (natOf l) = l := by
  unfold digitsB at h
  rw [Bool.and_eq_true, Bool.and_eq_true] at h
  obtain ⟨⟨h1, h2⟩, h3⟩ := h
  have hn : l ≠ [] := by intro e; subst e; simp at h1
  refine (dd_of l.length l rfl hn (List.all_eq_true.1 h3) ?_).1
  rintro c r rfl hr h48
  have : c = 48 := by
    have : UInt8.ofNat c.toNat = UInt8.ofNat 48 := by rw [h48]
    simpa using this
  subst this
  have : 1 < ((48 : UInt8) :: r).length := by cases r with | nil => exact absurd rfl hr | cons _ _ => simp
  simp [this] at h2
  exact absurd h2 hr
theorem digits_noMinus {l : List UInt8} (h : digitsB l = true) : minusOf l = false := by
  unfold digitsB at h
  rw [Bool.and_eq_true, Bool.and_eq_true] at h
  cases l with
  | nil => rfl
  | cons c r =>
    have hc := List.all_eq_true.1 h.2 c (by simp)
    have hc' : 48 ≤ c.toNat ∧ c.toNat ≤ 57 := by unfold isDig at hc; simpa using hc
    show (c == 45) = false
    rw [beq_eq_false_iff_ne]; rintro rfl; simp at hc'
theorem itoa_minus (u : Nat) (h : u ≠ 0) : itoa (-(u : Int)) = 45 :: decDigits u := by
  unfold itoa; rw [if_pos (by omega)]; congr 2; omega
theorem itoa_nat (u : Nat) : itoa (u : Int) = decDigits u := by
  unfold itoa; rw [if_neg (by omega)]; congr 1
/-- What Plain reads is what Itoa writes. -/
theorem itoa_plain {l : List UInt8} (h : plainOk l = true) : itoa (plainNum l) = l := by
  have h' := h
  unfold plainOk at h'
  rw [Bool.and_eq_true, Bool.and_eq_true] at h'
  obtain ⟨⟨h1, h2⟩, h3⟩ := h'
  have hd := dd_of_digits h1
  unfold plainNum
  rw [if_pos h]
  by_cases hm : minusOf l = true
  · rw [if_pos hm]
    have hb : bare l = l.drop 1 := by unfold bare; rw [if_pos hm]
    cases l with
    | nil => cases hm
    | cons c r =>
      have hc : c = 45 := by simpa [minusOf] using hm
      subst hc
      have hb' : bare (45 :: r) = r := by rw [hb]; rfl
      rw [hb'] at hd h1 ⊢
      have hz : natOf r ≠ 0 := by
        intro h0
        rw [h0, dd_zero] at hd
        rw [← hd] at h3
        simp at h3
      rw [itoa_minus _ hz, hd]
  · rw [if_neg hm, itoa_nat, hd]
    unfold bare; rw [if_neg hm]
theorem natOf_lt17 {l : List UInt8} (hd : ∀ c ∈ l, isDig c = true) : natOf l < 10 ^ l.length := by
  have key : ∀ (l : List UInt8) (a : Nat), (∀ c ∈ l, isDig c = true) → natFrom a l < (a + 1) * 10 ^ l.length := by
    intro l
    induction l with
    | nil => intro a _; show a < (a + 1) * 1; omega
    | cons c r ih =>
      intro a hd
      have hc := hd c (by simp)
      have hc' : 48 ≤ c.toNat ∧ c.toNat ≤ 57 := by unfold isDig at hc; simpa using hc
      have := ih (10 * a + (c.toNat - 48)) (fun x hx => hd x (by simp [hx]))
      show natFrom (10 * a + (c.toNat - 48)) r < _
      refine Nat.lt_of_lt_of_le this ?_
      rw [List.length_cons, Nat.pow_succ, Nat.mul_comm (10 ^ r.length) 10, ← Nat.mul_assoc]
      exact Nat.mul_le_mul_right _ (by omega)
  have := key l 0 hd
  rw [Nat.zero_add, Nat.one_mul] at this
  exact this
theorem plain_bound {l : List UInt8} (h : plainOk l = true) : -100000000000000000 < plainNum l ∧ plainNum l < 100000000000000000 := by
  have h' := h
  unfold plainOk at h'
  rw [Bool.and_eq_true, Bool.and_eq_true] at h'
  obtain ⟨⟨h1, h2⟩, h3⟩ := h'
  have hl : (bare l).length ≤ 17 := by simpa using h2
  have hd : ∀ c ∈ bare l, isDig c = true := by
    unfold digitsB at h1; rw [Bool.and_eq_true] at h1; exact List.all_eq_true.1 h1.2
  have hn := natOf_lt17 hd
  have hp : 10 ^ (bare l).length ≤ 10 ^ 17 := Nat.pow_le_pow_right (by omega) hl
  unfold plainNum
  rw [if_pos h]
  split <;> omega
theorem nDig_le {u : Nat} (h : u < 100000000000000000) : (decDigits u).length ≤ 17 := by
  rw [decDigits_length]
  have key : ∀ (k u : Nat), u < 10 ^ (k + 1) → nDigits u ≤ k + 1 := by
    intro k
    induction k with
    | zero => intro u hu; rw [nDigits_small (by simpa using hu)]; omega
    | succ k ih =>
      intro u hu
      by_cases h : u < 10
      · rw [nDigits_small h]; omega
      · rw [nDigits_big h]; have := ih (u / 10) (by rw [Nat.pow_succ] at hu; omega); omega
  exact key 16 u (by simpa using h)
/-- What Itoa writes, Plain reads. -/
theorem plain_itoa (n : Int) (h0 : -100000000000000000 < n) (h1 : n < 100000000000000000) : plainOk (itoa n) = true ∧ plainNum (itoa n) = n := by
  by_cases h : n < 0
  · obtain ⟨u, rfl⟩ : ∃ u : Nat, n = -(u : Int) := ⟨n.natAbs, by omega⟩
    have hu : u ≠ 0 := by omega
    rw [itoa_minus u hu]
    have hm : minusOf (45 :: decDigits u) = true := rfl
    have hb : bare (45 :: decDigits u) = decDigits u := by unfold bare; rw [if_pos hm]; rfl
    have ok : plainOk (45 :: decDigits u) = true := by
      unfold plainOk
      rw [hb, digitsB_dd, decide_eq_true (nDig_le (by omega))]
      have : ((45 :: decDigits u) == [45, 48]) = false := by
        rw [beq_eq_false_iff_ne]; intro he
        have e2 : decDigits u = [48] := by simpa using he
        have := natOf_dd u
        rw [e2] at this
        exact hu this.symm
      rw [this]; rfl
    refine ⟨ok, ?_⟩
    unfold plainNum; rw [if_pos ok, if_pos hm, hb, natOf_dd]
  · obtain ⟨u, rfl⟩ : ∃ u : Nat, n = (u : Int) := ⟨n.toNat, by omega⟩
    rw [itoa_nat]
    have hm : minusOf (decDigits u) = false := digits_noMinus (digitsB_dd u)
    have hb : bare (decDigits u) = decDigits u := by unfold bare; rw [hm]; rfl
    have ok : plainOk (decDigits u) = true := by
      unfold plainOk
      rw [hb, digitsB_dd, decide_eq_true (nDig_le (by omega))]
      have : (decDigits u == [45, 48]) = false := by
        rw [beq_eq_false_iff_ne]; intro he
        rw [he] at hm; cases hm
      rw [this]; rfl
    refine ⟨ok, ?_⟩
    unfold plainNum; rw [if_pos ok, hm, hb, natOf_dd]; rfl
end Go.Proofs.YthpiiocncdpimaaDoor.Num
