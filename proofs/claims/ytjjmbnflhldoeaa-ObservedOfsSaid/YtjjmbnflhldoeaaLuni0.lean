/- Rules of mean months, plain: numbers of months, first days. -/
import Derived.Test.YtjjmbnflhldoeaaMoon2
import Derived.Test.YtjjmbnflhldoeaaArith0
namespace Go.Proofs.Ytjjmbnflhldoeaa
set_option linter.unusedVariables false
set_option maxRecDepth 100000

/-- A rule without error. -/
structure MoonOk (s : ByteArray) (f sn sd mn md ln ld c : Int) (ls vs : List Int) (N : Int) : Prop where
  f1 : -4000000 ≤ f
  f2 : f ≤ 4000000
  n : partsOf sd md ld = N
  n1 : 1 ≤ N
  n2 : N ≤ 1000000
  sd1 : 1 ≤ sd
  md1 : 1 ≤ md
  ld1 : 1 ≤ ld
  sdv : sd ∣ N
  mdv : md ∣ N
  ldv : ld ∣ N
  sn1 : 0 ≤ sn
  sn2 : sn < sd
  mn1 : 29 * md ≤ mn
  mn2 : mn ≤ 30 * md
  ln1 : 1 ≤ ln
  ln2 : ln ≤ ld
  c1 : 1 ≤ c
  c2 : c ≤ 100
  leaps : ∀ y ∈ ls, 1 ≤ y ∧ y ≤ c
  sorted : ls.Pairwise (· < ·)
  v1 : vs.length ≤ 3
theorem lcmI_dvd (a b : Int) (ha : 1 ≤ a) (hb : 1 ≤ b) : a ∣ lcmI a b ∧ b ∣ lcmI a b := by
  refine ⟨⟨_, rfl⟩, ?_⟩
  rw [lcmI_eq a b ha hb]
  exact ⟨_, Int.mul_comm _ _⟩
theorem moonOk_of {s : ByteArray} {f sn sd mn md ln ld c : Int} {ls vs : List Int} (h : moonErr s f sn sd mn md ln ld c ls vs = 0) : ∃ N, MoonOk s f sn sd mn md ln ld c ls vs N := by
  cases h1 : isName s
  · rw [moonErr_name h1] at h; omega
  cases h2 : inB (-4000000) 4000000 f
  · rw [moonErr_day h1 h2] at h; omega
  cases h3 : (fracOk sn sd && (fracOk mn md && fracOk ln ld))
  · rw [moonErr_frac h1 h2 h3] at h; omega
  have k : MoonOk1 s f sn sd mn md ln ld := ⟨h1, h2, h3⟩
  by_cases h4 : moonBad sn sd mn md ln ld
  · rw [moonErr_bad k h4] at h; omega
  by_cases h5 : partsOf sd md ld = 0
  · rw [moonErr_over k h4 h5] at h; omega
  cases h6 : inB 1 100 c
  · rw [moonErr_cycle k h4 h5 h6] at h; omega
  by_cases h7 : incErr 1 c none ls = 0
  case neg => rw [moonErr_leaps k h4 h5 h6 h7] at h; exact absurd h h7
  by_cases h8 : 3 < vs.length
  · rw [moonErr_large k h4 h5 h6 h7 h8] at h; omega
  rw [Bool.and_eq_true, Bool.and_eq_true] at h3
  obtain ⟨s1, s2, s3, s4⟩ := fracOk_in h3.1
  obtain ⟨m1, m2, m3, m4⟩ := fracOk_in h3.2.1
  obtain ⟨l1, l2, l3, l4⟩ := fracOk_in h3.2.2
  have i2 : -4000000 ≤ f ∧ f ≤ 4000000 := by
    rcases inB_cases (-4000000) 4000000 f with ⟨_, h⟩ | ⟨h, _⟩
    · exact h
    · rw [h] at h2; cases h2
  have i6 : 1 ≤ c ∧ c ≤ 100 := by
    rcases inB_cases 1 100 c with ⟨_, h⟩ | ⟨h, _⟩
    · exact h
    · rw [h] at h6; cases h6
  obtain ⟨j1, j2, _⟩ := incErr_zero 1 c ls none h7
  unfold moonBad at h4
  have hp : lcmI (lcmI sd md) ld ≤ 1000000 ∧ partsOf sd md ld = lcmI (lcmI sd md) ld := by
    unfold partsOf at h5 ⊢
    by_cases hc : lcmI (lcmI sd md) ld ≤ 1000000
    · exact ⟨hc, if_pos hc⟩
    · rw [if_neg hc] at h5; exact absurd rfl h5
  have ge1 := lcmI_ge sd md s1 m1
  have ge2 := lcmI_ge (lcmI sd md) ld (by omega) l1
  obtain ⟨d1, d2⟩ := lcmI_dvd sd md s1 m1
  obtain ⟨d3, d4⟩ := lcmI_dvd (lcmI sd md) ld (by omega) l1
  exact ⟨lcmI (lcmI sd md) ld, i2.1, i2.2, hp.2, by omega, hp.1, s1, m1, l1, Int.dvd_trans d1 d3, Int.dvd_trans d2 d3, d4, by omega, by omega, by omega, by omega, by omega, by omega, i6.1, i6.2, j1, j2, by omega⟩

/-- Whether a year is a leap year. -/
def leapY (c : Int) (ls : List Int) (y : Int) : Bool := flag ls ((y - 1) % c)
def mths (c : Int) (ls : List Int) (y : Int) : Int := bif leapY c ls y then 13 else 12
/-- The number of months before a year. -/
def bef (c : Int) (ls : List Int) (y : Int) : Int := 12 * (y - 1) + (y - 1) / c * (ls.length : Int) + (cnt ls ((y - 1) % c) : Int)
theorem mths_in (c : Int) (ls : List Int) (y : Int) : mths c ls y = 12 ∨ mths c ls y = 13 := by unfold mths; cases leapY c ls y <;> simp
theorem flag_iff {c : Int} {ls : List Int} (hc : 1 ≤ c) (hl : ∀ y ∈ ls, 1 ≤ y ∧ y ≤ c) (y : Int) : leapY c ls y = true ↔ ∃ z ∈ ls, c ∣ y - z := by
  unfold leapY flag
  rw [decide_eq_true_eq]
  have h1 : c * ((y - 1) / c) + (y - 1) % c = y - 1 := Int.mul_ediv_add_emod _ _
  have h2 := Int.emod_nonneg (y - 1) (show c ≠ 0 by omega)
  have h3 := Int.emod_lt_of_pos (y - 1) (show 0 < c by omega)
  constructor
  · intro h
    exact ⟨_, h, (y - 1) / c, by omega⟩
  · rintro ⟨z, hz, k, hk⟩
    obtain ⟨z1, z2⟩ := hl z hz
    have e : y - 1 = (z - 1) + c * k := by omega
    have e2 : (y - 1) % c = z - 1 := by
      rw [e, Int.add_mul_emod_self_left, Int.emod_eq_of_lt (by omega) (by omega)]
    rw [e2, show z - 1 + 1 = z by omega]
    exact hz
theorem bef_one {c : Int} {ls : List Int} (hl : ∀ y ∈ ls, 1 ≤ y ∧ y ≤ c) : bef c ls 1 = 0 := by
  unfold bef
  rw [show (1 : Int) - 1 = 0 by omega, Int.zero_ediv, Int.zero_emod, cnt_zero (fun y hy => by have := hl y hy; omega)]
  simp
theorem bef_succ {c : Int} {ls : List Int} (hc : 1 ≤ c) (hl : ∀ y ∈ ls, 1 ≤ y ∧ y ≤ c) (hs : ls.Pairwise (· < ·)) (y : Int) : bef c ls (y + 1) = bef c ls y + mths c ls y := by
  have h1 : c * ((y - 1) / c) + (y - 1) % c = y - 1 := Int.mul_ediv_add_emod _ _
  have p1 := Int.emod_nonneg (y - 1) (show c ≠ 0 by omega)
  have p2 := Int.emod_lt_of_pos (y - 1) (show 0 < c by omega)
  have hsu := cnt_succ ((y - 1) % c) ls hs
  have hm : mths c ls y = 12 + ((if (y - 1) % c + 1 ∈ ls then 1 else 0 : Nat) : Int) := by
    unfold mths leapY flag
    by_cases h : (y - 1) % c + 1 ∈ ls
    · rw [decide_eq_true h, if_pos h]; rfl
    · rw [decide_eq_false h, if_neg h]; rfl
  rw [hm]
  unfold bef
  rw [show y + 1 - 1 = y by omega]
  generalize (if (y - 1) % c + 1 ∈ ls then 1 else 0 : Nat) = t at *
  by_cases hlast : (y - 1) % c + 1 = c
  · have e : y = 0 + c * ((y - 1) / c + 1) := by rw [Int.mul_add]; omega
    have e1 : y / c = (y - 1) / c + 1 := by
      conv => lhs; rw [e]
      rw [Int.add_mul_ediv_left _ _ (by omega)]; simp
    have e2 : y % c = 0 := by
      conv => lhs; rw [e]
      rw [Int.add_mul_emod_self_left]; simp
    rw [hlast, cnt_all (fun z hz => (hl z hz).2)] at hsu
    rw [e1, e2, cnt_zero (fun z hz => by have := hl z hz; omega), Int.add_mul]
    omega
  · have e : y = ((y - 1) % c + 1) + c * ((y - 1) / c) := by omega
    have e1 : y / c = (y - 1) / c := by
      conv => lhs; rw [e]
      rw [Int.add_mul_ediv_left _ _ (by omega), Int.ediv_eq_zero_of_lt (by omega) (by omega)]; simp
    have e2 : y % c = (y - 1) % c + 1 := by
      conv => lhs; rw [e]
      rw [Int.add_mul_emod_self_left, Int.emod_eq_of_lt (by omega) (by omega)]
    rw [e1, e2, hsu]
    omega
theorem bef_up {c : Int} {ls : List Int} (hc : 1 ≤ c) (hl : ∀ y ∈ ls, 1 ≤ y ∧ y ≤ c) (hs : ls.Pairwise (· < ·)) (a : Int) : ∀ n : Nat, bef c ls a + 12 * n ≤ bef c ls (a + n) ∧ bef c ls (a + n) ≤ bef c ls a + 13 * n
  | 0 => by simp
  | n + 1 => by
    have ih := bef_up hc hl hs a n
    have h := bef_succ hc hl hs (a + n)
    have hm := mths_in c ls (a + n)
    rw [show a + ((n + 1 : Nat) : Int) = a + n + 1 by omega, h]
    omega
theorem bef_in {c : Int} {ls : List Int} (hc : 1 ≤ c) (hl : ∀ y ∈ ls, 1 ≤ y ∧ y ≤ c) (hs : ls.Pairwise (· < ·)) (y : Int) (y1 : -20000 ≤ y) (y2 : y ≤ 20000) : -300000 ≤ bef c ls y ∧ bef c ls y ≤ 300000 := by
  have h0 := bef_one hl
  rcases Int.le_total 1 y with h | h
  · have := bef_up hc hl hs 1 (y - 1).toNat
    rw [show (1 : Int) + ((y - 1).toNat : Nat) = y by omega] at this
    omega
  · have := bef_up hc hl hs y (1 - y).toNat
    rw [show y + ((1 - y).toNat : Nat) = 1 by omega] at this
    omega
/-- The parts up to the k-th month. -/
def atP (sn sd mn md N k : Int) : Int := N / sd * sn + k * (N / md * mn)
/-- The first day of the k-th month, before a delay. -/
def dayP (f sn sd mn md ln ld N k : Int) : Int := f + (atP sn sd mn md N k / N + if N / ld * ln ≤ atP sn sd mn md N k % N then 1 else 0)
def badD (vs : List Int) (d : Int) : Bool := decide ((d + 6) % 7 ∈ vs)
/-- The first day that is not avoided. -/
def postD (vs : List Int) (d : Int) : Int := bif badD vs d then (bif badD vs (d + 1) then (bif badD vs (d + 2) then d + 3 else d + 2) else d + 1) else d
theorem postD_ok (vs : List Int) (d : Int) (h : vs.length ≤ 3) : badD vs (postD vs d) = false := by
  unfold postD
  cases h0 : badD vs d
  · exact h0
  cases h1 : badD vs (d + 1)
  · exact h1
  cases h2 : badD vs (d + 2)
  · exact h2
  simp only [cond_true]
  cases h3 : badD vs (d + 3)
  · rfl
  unfold badD at h0 h1 h2 h3
  rw [decide_eq_true_eq] at h0 h1 h2 h3
  match vs, h with
  | [], _ => simp at h0
  | [a], _ => simp at h0 h1; omega
  | [a, b], _ => simp only [List.mem_cons, List.not_mem_nil, or_false] at h0 h1 h2; omega
  | [a, b, e], _ => simp only [List.mem_cons, List.not_mem_nil, or_false] at h0 h1 h2 h3; omega
theorem postD_in (vs : List Int) (d : Int) : d ≤ postD vs d ∧ postD vs d ≤ d + 3 := by
  unfold postD
  cases badD vs d <;> cases badD vs (d + 1) <;> cases badD vs (d + 2) <;> simp <;> omega
theorem postD_step {vs : List Int} {d : Int} (h : vs.length ≤ 3) (hb : badD vs d = true) : postD vs (d + 1) = postD vs d := by
  have h1 := postD_ok vs d h
  unfold postD at h1 ⊢
  rw [hb] at h1 ⊢
  simp only [cond_true] at h1 ⊢
  rw [show d + 1 + 1 = d + 2 by omega, show d + 1 + 2 = d + 3 by omega]
  cases hb1 : badD vs (d + 1)
  · simp
  cases hb2 : badD vs (d + 2)
  · simp
  rw [hb1, hb2] at h1
  simp only [cond_true] at h1 ⊢
  rw [h1]
  simp only [cond_false]
theorem postD_stop {vs : List Int} {d : Int} (hb : badD vs d = false) : postD vs d = d := by unfold postD; rw [hb]; rfl
/-- The first day of a month. -/
def begD (f sn sd mn md ln ld c N : Int) (ls vs : List Int) (y m : Int) : Int := if m = 1 then postD vs (dayP f sn sd mn md ln ld N (bef c ls y)) else dayP f sn sd mn md ln ld N (bef c ls y + m - 1)
end Go.Proofs.Ytjjmbnflhldoeaa
