/- Offsets of zones as both readers read them: plain. -/
import Derived.Test.YthpiiocncdpimabDoorPrt0
namespace Go.Proofs.YthpiiocncdpimabDoor
set_option linter.unusedVariables false
set_option linter.unusedSimpArgs false
set_option maxRecDepth 100000
open Go.RowKit Go.Shelf Num

theorem pm1 (b : UInt8) : Lib.parseMag [b] = if isDig b = true then .ok (b.toNat - 48) else .syntax := by
  unfold Lib.parseMag isDig
  rw [if_neg (by simp)]
  by_cases h : 48 ≤ b.toNat ∧ b.toNat ≤ 57
  · rw [Lib.parseUint10, if_pos h, if_neg (by omega), if_neg (by omega), Lib.parseUint10, if_pos (by simp [h])]; simp
  · rw [Lib.parseUint10, if_neg h, if_neg (by simpa using h)]
theorem pm2 (a b : UInt8) : Lib.parseMag [a, b] = if isDig a = true then (if isDig b = true then .ok (10 * (a.toNat - 48) + (b.toNat - 48)) else .syntax) else .syntax := by
  unfold Lib.parseMag isDig
  rw [if_neg (by simp)]
  by_cases h : 48 ≤ a.toNat ∧ a.toNat ≤ 57
  · rw [Lib.parseUint10, if_pos h, if_neg (by omega), if_neg (by omega), if_pos (by simp [h])]
    by_cases h2 : 48 ≤ b.toNat ∧ b.toNat ≤ 57
    · rw [Lib.parseUint10, if_pos h2, if_neg (by omega), if_neg (by omega), Lib.parseUint10, if_pos (by simp [h2])]; congr 1; omega
    · rw [Lib.parseUint10, if_neg h2, if_neg (by simpa using h2)]
  · rw [Lib.parseUint10, if_neg h, if_neg (by simpa using h)]
theorem atoi2_dig {a b : UInt8} (ha : isDig a = true) (hb : isDig b = true) : atoiV [a, b] = ((10 * (a.toNat - 48) + (b.toNat - 48) : Nat) : Int) := by
  have h1 : 48 ≤ a.toNat ∧ a.toNat ≤ 57 := by unfold isDig at ha; simpa using ha
  have h2 : 48 ≤ b.toNat ∧ b.toNat ≤ 57 := by unfold isDig at hb; simpa using hb
  unfold atoiV Lib.atoiAll
  simp only []
  rw [if_neg (by omega), pm2, if_pos ha, if_pos hb]
  simp only []
  rw [if_neg (by omega), if_neg (by omega), if_neg (by omega)]
theorem atoi2_bound (a b : UInt8) : -9 ≤ atoiV [a, b] ∧ atoiV [a, b] ≤ 99 := by
  have key : ∀ {c : UInt8}, isDig c = true → 48 ≤ c.toNat ∧ c.toNat ≤ 57 := fun {c} h => by unfold isDig at h; simpa using h
  unfold atoiV Lib.atoiAll
  simp only []
  by_cases hs : a.toNat = 43 ∨ a.toNat = 45
  · rw [if_pos hs, pm1]
    by_cases hb : isDig b = true
    · have := key hb
      rw [if_pos hb]
      simp only []
      rw [if_neg (by omega), if_neg (by omega)]
      simp only []
      split <;> omega
    · rw [if_neg hb]; simp
  · rw [if_neg hs, pm2]
    by_cases ha : isDig a = true
    · rw [if_pos ha]
      by_cases hb : isDig b = true
      · have := key hb
        have := key ha
        rw [if_pos hb]
        simp only []
        rw [if_neg (by omega), if_neg (by omega)]
        simp only []
        split <;> omega
      · rw [if_neg hb]; simp
    · rw [if_neg ha]; simp
theorem u8_of {c : UInt8} {k : Nat} (h : c = UInt8.ofNat k) (hk : k < 256) : c.toNat = k := by rw [h, ofNat_toNat k hk]
theorem u8_to {c : UInt8} {k : Nat} (h : c.toNat = k) : c = UInt8.ofNat k := by rw [← h]; simp

/-! The reference. -/
def unitO : Nat → Nat | 1 => 36000 | 2 => 3600 | 4 => 600 | 5 => 60 | 7 => 10 | 8 => 1 | _ => 0
def sumO (l : List UInt8) : Nat → Nat
  | 0 => 0
  | k + 1 => sumO l k + ((l.getD k 0).toNat - 48) * unitO k
def okO (l : List UInt8) (j : Nat) : Bool := if j = 3 ∨ j = 6 then l.getD j 0 == 58 else isDig (l.getD j 0)
def allO (l : List UInt8) : Nat → Bool
  | 0 => true
  | k + 1 => allO l k && (k == 0 || okO l k)
theorem allO_le {l : List UInt8} : ∀ {n k : Nat}, allO l n = true → k < n → k ≠ 0 → okO l k = true
  | 0, k, _, h, _ => by omega
  | n + 1, k, ha, h, h0 => by
    rw [allO, Bool.and_eq_true] at ha
    rcases Nat.lt_or_ge k n with h' | h'
    · exact allO_le ha.1 h' h0
    · obtain rfl : k = n := by omega
      have := ha.2
      rw [Bool.or_eq_true] at this
      rcases this with h1 | h1
      · exact absurd (by simpa using h1) h0
      · exact h1
def tailO (l : List UInt8) : Bool := decide ((l.getD 4 0).toNat ≤ 53) && decide ((l.getD 7 0).toNat ≤ 53) && ((l.getD 0 0 == 43) || (l.getD 0 0 == 45)) && !(decide (sumO l 9 = 0) && (l.getD 0 0 == 45))
def offOkR (l : List UInt8) : Bool := decide (l.length = 9) && allO l 9 && tailO l
def offVR (l : List UInt8) : Int := if (l.getD 0 0 == 45) = true then -(1000 * (sumO l 9 : Int)) else 1000 * (sumO l 9 : Int)

/-! The program. -/
def hO (l : List UInt8) : Int := atoiV ((l.drop 1).take 2)
def mO (l : List UInt8) : Int := atoiV ((l.drop 4).take 2)
def eO (l : List UInt8) : Int := atoiV ((l.drop 7).take 2)
def secO (l : List UInt8) : Int := ((hO l * 60 + mO l) * 60 + eO l) * 1000
def offNP (l : List UInt8) : Int := if (l.getD 0 0 == 45) = true then -secO l else secO l
def offOkP (l : List UInt8) : Bool := decide (l.length = 9) && (decide (0 ≤ hO l) && decide (0 ≤ mO l) && decide (0 ≤ eO l) && decide (hO l < 100)) && ((offS (offNP l)).data.toList == l)
theorem offS_list (n : Int) (q : Nat) (hq : q = n.natAbs / 1000) : (offS n).data.toList = [if n < 0 then 45 else 43, UInt8.ofNat (48 + q / 3600 / 10), UInt8.ofNat (48 + q / 3600 % 10), 58, UInt8.ofNat (48 + q / 60 % 60 / 10), UInt8.ofNat (48 + q / 60 % 60 % 10), 58, UInt8.ofNat (48 + q % 60 / 10), UInt8.ofNat (48 + q % 60 % 10)] := by
  subst hq
  unfold offS
  simp only [app_list]
  split <;> rfl
theorem hms_bound {l : List UInt8} (h : l.length = 9) : (-9 ≤ hO l ∧ hO l ≤ 99) ∧ (-9 ≤ mO l ∧ mO l ≤ 99) ∧ (-9 ≤ eO l ∧ eO l ≤ 99) := by
  match l, h with
  | [c0, c1, c2, c3, c4, c5, c6, c7, c8], _ => exact ⟨atoi2_bound c1 c2, atoi2_bound c4 c5, atoi2_bound c7 c8⟩
theorem sec_bound {l : List UInt8} (h : l.length = 9) : -400000000 ≤ offNP l ∧ offNP l ≤ 400000000 := by
  obtain ⟨⟨a, b⟩, ⟨c, d⟩, e, f⟩ := hms_bound h
  unfold offNP secO
  split <;> omega
set_option maxHeartbeats 2000000 in
theorem off_same (l : List UInt8) : offOkP l = offOkR l ∧ (offOkR l = true → offNP l = offVR l) := by
  by_cases hl : l.length = 9
  rotate_left
  · unfold offOkP offOkR; rw [decide_eq_false hl]; simp
  match l, hl with
  | [c0, c1, c2, c3, c4, c5, c6, c7, c8], hl =>
    have key : ∀ {c : UInt8}, isDig c = true → 48 ≤ c.toNat ∧ c.toNat ≤ 57 := fun {c} h => by unfold isDig at h; simpa using h
    have yek : ∀ {c : UInt8}, 48 ≤ c.toNat → c.toNat ≤ 57 → isDig c = true := fun {c} h h' => by unfold isDig; simp [h, h']
    have hsum : sumO [c0, c1, c2, c3, c4, c5, c6, c7, c8] 9 = (c1.toNat - 48) * 36000 + (c2.toNat - 48) * 3600 + (c4.toNat - 48) * 600 + (c5.toNat - 48) * 60 + (c7.toNat - 48) * 10 + (c8.toNat - 48) := by
      simp [sumO, unitO]
    have hh : hO [c0, c1, c2, c3, c4, c5, c6, c7, c8] = atoiV [c1, c2] := rfl
    have hm : mO [c0, c1, c2, c3, c4, c5, c6, c7, c8] = atoiV [c4, c5] := rfl
    have he : eO [c0, c1, c2, c3, c4, c5, c6, c7, c8] = atoiV [c7, c8] := rfl
    have z0 : ([c0, c1, c2, c3, c4, c5, c6, c7, c8] : List UInt8).getD 0 0 = c0 := rfl
    have u45 : ∀ {c : UInt8}, (c == 45) = true ↔ c.toNat = 45 := fun {c} => by
      rw [beq_iff_eq]; exact ⟨fun h => by rw [h]; rfl, fun h => by have := u8_to h; simpa using this⟩
    have u43 : ∀ {c : UInt8}, (c == 43) = true ↔ c.toNat = 43 := fun {c} => by
      rw [beq_iff_eq]; exact ⟨fun h => by rw [h]; rfl, fun h => by have := u8_to h; simpa using this⟩
    have u58 : ∀ {c : UInt8}, (c == 58) = true ↔ c.toNat = 58 := fun {c} => by
      rw [beq_iff_eq]; exact ⟨fun h => by rw [h]; rfl, fun h => by have := u8_to h; simpa using this⟩
    -- the reference's test in numbers
    have hR : offOkR [c0, c1, c2, c3, c4, c5, c6, c7, c8] = true ↔ (isDig c1 = true ∧ isDig c2 = true ∧ c3.toNat = 58 ∧ isDig c4 = true ∧ isDig c5 = true ∧ c6.toNat = 58 ∧ isDig c7 = true ∧ isDig c8 = true) ∧ (c4.toNat ≤ 53 ∧ c7.toNat ≤ 53) ∧ (c0.toNat = 43 ∨ c0.toNat = 45) ∧ ¬ (sumO [c0, c1, c2, c3, c4, c5, c6, c7, c8] 9 = 0 ∧ c0.toNat = 45) := by
      have e1 : allO [c0, c1, c2, c3, c4, c5, c6, c7, c8] 9 = (isDig c1 && isDig c2 && (c3 == 58) && isDig c4 && isDig c5 && (c6 == 58) && isDig c7 && isDig c8) := by
        simp [allO, okO]
      unfold offOkR tailO
      rw [decide_eq_true hl, e1, z0]
      simp only [Bool.true_and, Bool.and_eq_true, Bool.or_eq_true, Bool.not_eq_true', Bool.and_eq_false_iff, decide_eq_true_eq, u43, u45, u58]
      show _ ∧ (((c4.toNat ≤ 53 ∧ c7.toNat ≤ 53) ∧ _) ∧ _) ↔ _
      generalize sumO [c0, c1, c2, c3, c4, c5, c6, c7, c8] 9 = Z
      have q45 : (c0 == 45) = false ↔ ¬ c0.toNat = 45 := by rw [← u45]; simp
      rw [q45, decide_eq_false_iff_not]
      constructor
      · rintro ⟨⟨⟨⟨⟨⟨⟨⟨a1, a2⟩, a3⟩, a4⟩, a5⟩, a6⟩, a7⟩, a8⟩, ⟨a9, b1⟩, b2⟩
        exact ⟨⟨a1, a2, a3, a4, a5, a6, a7, a8⟩, a9, b1, fun ⟨x, y⟩ => b2.elim (fun b => b x) (fun b => b y)⟩
      · rintro ⟨⟨a1, a2, a3, a4, a5, a6, a7, a8⟩, a9, b1, b2⟩
        refine ⟨⟨⟨⟨⟨⟨⟨⟨a1, a2⟩, a3⟩, a4⟩, a5⟩, a6⟩, a7⟩, a8⟩, ⟨a9, b1⟩, ?_⟩
        by_cases hx : Z = 0
        · exact .inr fun hy => b2 ⟨hx, hy⟩
        · exact .inl hx
    have b1 := atoi2_bound c1 c2
    have b2 := atoi2_bound c4 c5
    have b3 := atoi2_bound c7 c8
    have hN : offNP [c0, c1, c2, c3, c4, c5, c6, c7, c8] = if c0.toNat = 45 then -(((atoiV [c1, c2] * 60 + atoiV [c4, c5]) * 60 + atoiV [c7, c8]) * 1000) else ((atoiV [c1, c2] * 60 + atoiV [c4, c5]) * 60 + atoiV [c7, c8]) * 1000 := by
      unfold offNP secO; rw [hh, hm, he, z0]
      by_cases hc : c0.toNat = 45
      · rw [if_pos (u45.2 hc), if_pos hc]
      · rw [if_neg (fun h => hc (u45.1 h)), if_neg hc]
    have hV : offVR [c0, c1, c2, c3, c4, c5, c6, c7, c8] = if c0.toNat = 45 then -(1000 * (sumO [c0, c1, c2, c3, c4, c5, c6, c7, c8] 9 : Int)) else 1000 * (sumO [c0, c1, c2, c3, c4, c5, c6, c7, c8] 9 : Int) := by
      unfold offVR; rw [z0]
      by_cases hc : c0.toNat = 45
      · rw [if_pos (u45.2 hc), if_pos hc]
      · rw [if_neg (fun h => hc (u45.1 h)), if_neg hc]
    -- from the reference to the program
    have fwd : offOkR [c0, c1, c2, c3, c4, c5, c6, c7, c8] = true → offOkP [c0, c1, c2, c3, c4, c5, c6, c7, c8] = true ∧ offNP [c0, c1, c2, c3, c4, c5, c6, c7, c8] = offVR [c0, c1, c2, c3, c4, c5, c6, c7, c8] := by
      intro h
      obtain ⟨⟨a1, a2, a3, a4, a5, a6, a7, a8⟩, ⟨a9, a10⟩, a11, a12⟩ := hR.1 h
      have v1 := atoi2_dig a1 a2
      have v2 := atoi2_dig a4 a5
      have v3 := atoi2_dig a7 a8
      replace a1 := key a1; replace a2 := key a2; replace a4 := key a4; replace a5 := key a5; replace a7 := key a7; replace a8 := key a8
      rw [hsum] at a12
      have hNV : offNP [c0, c1, c2, c3, c4, c5, c6, c7, c8] = offVR [c0, c1, c2, c3, c4, c5, c6, c7, c8] := by
        rw [hN, hV, hsum, v1, v2, v3]
        split <;> omega
      refine ⟨?_, hNV⟩
      unfold offOkP
      rw [decide_eq_true hl, hh, hm, he, v1, v2, v3, hNV]
      obtain ⟨q, hq⟩ : ∃ q, q = (offVR [c0, c1, c2, c3, c4, c5, c6, c7, c8]).natAbs / 1000 := ⟨_, rfl⟩
      rw [offS_list _ q hq]
      rw [hV, hsum] at hq
      have hq2 : q = (c1.toNat - 48) * 36000 + (c2.toNat - 48) * 3600 + (c4.toNat - 48) * 600 + (c5.toNat - 48) * 60 + (c7.toNat - 48) * 10 + (c8.toNat - 48) := by
        rw [hq]; split <;> omega
      clear hq
      have s0 : (if offVR [c0, c1, c2, c3, c4, c5, c6, c7, c8] < 0 then (45 : UInt8) else 43) = c0 := by
        rw [hV, hsum]
        rcases a11 with h43 | h45
        · rw [if_neg (by omega)]; have := u8_to h43; simpa using this.symm
        · rw [if_pos h45, if_pos (by omega)]; have := u8_to h45; simpa using this.symm
      have s1 : UInt8.ofNat (48 + q / 3600 / 10) = c1 := (u8_to (by omega)).symm
      have s2 : UInt8.ofNat (48 + q / 3600 % 10) = c2 := (u8_to (by omega)).symm
      have s3 : (58 : UInt8) = c3 := by have := u8_to a3; simpa using this.symm
      have s4 : UInt8.ofNat (48 + q / 60 % 60 / 10) = c4 := (u8_to (by omega)).symm
      have s5 : UInt8.ofNat (48 + q / 60 % 60 % 10) = c5 := (u8_to (by omega)).symm
      have s6 : (58 : UInt8) = c6 := by have := u8_to a6; simpa using this.symm
      have s7 : UInt8.ofNat (48 + q % 60 / 10) = c7 := (u8_to (by omega)).symm
      have s8 : UInt8.ofNat (48 + q % 60 % 10) = c8 := (u8_to (by omega)).symm
      rw [s0, s1, s2, s4, s5, s7, s8]
      conv => lhs; rhs; lhs; rw [s3]
      simp only [Bool.true_and, Bool.and_eq_true, decide_eq_true_eq, beq_iff_eq]
      refine ⟨⟨⟨⟨by omega, by omega⟩, by omega⟩, by omega⟩, ?_⟩
      rw [← s3, ← s6]
    refine ⟨?_, fun h => (fwd h).2⟩
    rw [Bool.eq_iff_iff]
    refine ⟨fun h => ?_, fun h => (fwd h).1⟩
    unfold offOkP at h
    rw [decide_eq_true hl, hh, hm, he] at h
    simp only [Bool.true_and, Bool.and_eq_true, decide_eq_true_eq, beq_iff_eq] at h
    obtain ⟨⟨⟨⟨p1, p2⟩, p3⟩, p4⟩, hs⟩ := h
    obtain ⟨q, hq⟩ : ∃ q, q = (offNP [c0, c1, c2, c3, c4, c5, c6, c7, c8]).natAbs / 1000 := ⟨_, rfl⟩
    rw [offS_list _ q hq] at hs
    have hq2 : (q : Int) = (atoiV [c1, c2] * 60 + atoiV [c4, c5]) * 60 + atoiV [c7, c8] := by
      rw [hq, hN]; split <;> omega
    have hneg : offNP [c0, c1, c2, c3, c4, c5, c6, c7, c8] < 0 ↔ c0.toNat = 45 ∧ q ≠ 0 := by
      rw [hN]; split <;> omega
    clear hq
    simp only [List.cons.injEq] at hs
    obtain ⟨t0, t1, t2, t3, t4, t5, t6, t7, t8, _⟩ := hs
    have hlt : q / 3600 < 100 := by
      rcases Nat.lt_or_ge (q / 3600) 100 with h | h
      · exact h
      · have e100 : q / 3600 = 100 := by omega
        rw [e100] at t1 t2
        have : atoiV [c1, c2] = 0 := by rw [← t1, ← t2]; decide
        omega
    have w1 := u8_of t1.symm (by omega)
    have w2 := u8_of t2.symm (by omega)
    have w4 := u8_of t4.symm (by omega)
    have w5 := u8_of t5.symm (by omega)
    have w7 := u8_of t7.symm (by omega)
    have w8 := u8_of t8.symm (by omega)
    refine hR.2 ⟨⟨yek (by omega) (by omega), yek (by omega) (by omega), by rw [← t3]; rfl, yek (by omega) (by omega), yek (by omega) (by omega), by rw [← t6]; rfl, yek (by omega) (by omega), yek (by omega) (by omega)⟩, ⟨by omega, by omega⟩, ?_, ?_⟩
    · by_cases hn : offNP [c0, c1, c2, c3, c4, c5, c6, c7, c8] < 0
      · exact .inr (hneg.1 hn).1
      · rw [if_neg hn] at t0; exact .inl (by rw [← t0]; rfl)
    · rintro ⟨g1, g2⟩
      have hn : offNP [c0, c1, c2, c3, c4, c5, c6, c7, c8] < 0 := by
        by_cases hn : offNP [c0, c1, c2, c3, c4, c5, c6, c7, c8] < 0
        · exact hn
        · rw [if_neg hn] at t0; rw [← t0] at g2; simp at g2
      have hq0 := (hneg.1 hn).2
      rw [hsum] at g1
      omega
end Go.Proofs.YthpiiocncdpimabDoor
