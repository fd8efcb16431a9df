/- The normal form of a recurrence has the same days, plain. -/
import Derived.Test.YtdmkghgachapaaaGreatDoorNorm
namespace Go.Proofs.YtdmkghgachapaaaGreatDoor
set_option linter.unusedVariables false
set_option linter.unusedSimpArgs false
set_option maxRecDepth 100000
open Go.RowKit greg

theorem listErr_iff (lo hi : Int) (z : Bool) : ∀ (l seen : List Int), listErr lo hi z seen l = 0 ↔ (∀ x ∈ l, lo ≤ x ∧ x ≤ hi ∧ (z = true ∨ x ≠ 0)) ∧ l.Nodup ∧ ∀ x ∈ l, x ∉ seen
  | [], seen => by rw [listErr.eq_def]; simp
  | n :: l, seen => by
    rw [listErr_cons]
    have ih := listErr_iff lo hi z l (seen ++ [n])
    by_cases h1 : ¬ (lo ≤ n ∧ n ≤ hi) ∨ (n = 0 ∧ z = false)
    · rw [if_pos h1]
      constructor
      · intro h; omega
      · rintro ⟨h, _⟩
        have := h n (by simp)
        rcases h1 with h1 | ⟨h1, h2⟩
        · omega
        · rcases this.2.2 with h3 | h3
          · rw [h2] at h3; cases h3
          · exact absurd h1 h3
    · rw [if_neg h1]
      have h1' : lo ≤ n ∧ n ≤ hi ∧ (z = true ∨ n ≠ 0) := by
        refine ⟨by omega, by omega, ?_⟩
        cases z
        · right; intro e; exact h1 (.inr ⟨e, rfl⟩)
        · left; rfl
      by_cases h2 : n ∈ seen
      · rw [if_pos h2]
        constructor
        · intro h; omega
        · rintro ⟨_, _, h⟩; exact absurd h2 (h n (by simp))
      · rw [if_neg h2, ih]
        simp only [List.mem_cons, List.nodup_cons, List.mem_append, List.not_mem_nil, or_false]
        constructor
        · rintro ⟨p, q, r⟩
          refine ⟨?_, ⟨fun hm => (r n hm) (.inr rfl), q⟩, ?_⟩
          · rintro x (rfl | hx)
            · exact h1'
            · exact p x hx
          · rintro x (rfl | hx)
            · exact h2
            · exact fun hs => r x hx (.inl hs)
        · rintro ⟨p, ⟨q1, q2⟩, r⟩
          refine ⟨fun x hx => p x (.inr hx), q2, fun x hx => ?_⟩
          rintro (hs | rfl)
          · exact r x (.inr hx) hs
          · exact q1 hx
theorem listOut_iff (lo hi : Int) (z : Bool) (l : List Int) : listOut lo hi z l = 0 ↔ l.length ≤ 31 ∧ (∀ x ∈ l, lo ≤ x ∧ x ≤ hi ∧ (z = true ∨ x ≠ 0)) ∧ l.Nodup := by
  unfold listOut
  by_cases h : 31 < l.length
  · rw [if_pos h]; constructor
    · intro h; omega
    · rintro ⟨h, _⟩; omega
  · rw [if_neg h, listErr_iff]
    constructor
    · rintro ⟨p, q, _⟩; exact ⟨by omega, p, q⟩
    · rintro ⟨_, p, q⟩; exact ⟨p, q, by simp⟩
theorem listOut_sort {lo hi : Int} {z : Bool} {l : List Int} (h : listOut lo hi z l = 0) : listOut lo hi z (sortI l) = 0 := by
  rw [listOut_iff] at h ⊢
  have hp : (sortI l).Perm l := List.mergeSort_perm _ _
  refine ⟨by rw [sortI_len]; exact h.1, fun x hx => h.2.1 x (hp.mem_iff.1 hx), hp.nodup_iff.2 h.2.2⟩
theorem listOut_one {lo hi x : Int} {z : Bool} (h1 : lo ≤ x) (h2 : x ≤ hi) (h3 : z = true ∨ x ≠ 0) : listOut lo hi z [x] = 0 := by
  rw [listOut_iff]
  exact ⟨by simp, fun y hy => by simp at hy; subst hy; exact ⟨h1, h2, h3⟩, by simp⟩
theorem hasB_sort (x : Int) (l : List Int) : hasB x (sortI l) = hasB x l := by
  unfold hasB
  rw [decide_eq_decide]
  exact (List.mergeSort_perm l _).mem_iff
theorem listedB_sort (l vs : List Int) : listedB (sortI l) vs = listedB l vs := by
  unfold listedB anyB
  rw [sortI_len]
  congr 1
  congr 1
  funext v
  exact hasB_sort v l
theorem fitsEnd_sort (u : Int) (ws ms ns : List Int) (k0 m0 d0 k m d : Int) : fitsEnd u (sortI ws) (sortI ms) (sortI ns) k0 m0 d0 k m d = fitsEnd u ws ms ns k0 m0 d0 k m d := by
  unfold fitsEnd
  rw [sortI_len, sortI_len, sortI_len]
theorem fitR_sort (u ev f : Int) (ws ms ns : List Int) (x : Int) : fitR u ev f (sortI ws) (sortI ms) (sortI ns) x = fitR u ev f ws ms ns x := by
  unfold fitR fitsB
  rw [listedB_sort, listedB_sort, listedB_sort, fitsEnd_sort]
theorem gD_len (x : Int) : 1 ≤ gD x ∧ gD x ≤ mlen x := by
  have h := (greg_spec x).1
  exact ⟨h.2.2.1, h.2.2.2⟩
theorem gM_in (x : Int) : 1 ≤ gM x ∧ gM x ≤ 12 := by
  have h := (greg_spec x).1
  exact ⟨h.1, h.2.1⟩
theorem listed_one (a b : Int) : listedB [a] [b] = (b == a) := by
  unfold listedB anyB hasB
  simp [Bool.beq_eq_decide_eq]
theorem listed_two (a b c : Int) (h : c < 1) (ha : 1 ≤ a) : listedB [a] [b, c] = (b == a) := by
  unfold listedB anyB hasB
  have hc : ¬ c = a := by omega
  simp [hc, Bool.beq_eq_decide_eq]
theorem listed_nil (vs : List Int) : listedB [] vs = true := by unfold listedB; simp
theorem tmod_split {ev x f : Int} (h1 : 1 ≤ ev) (h7 : ev % 7 = 0) (hx : f ≤ x) :
    ((x - f).tmod ev != 0) = !(!((((x - 1) / 7 - (f - 1) / 7)).tmod (ev / 7) != 0) && ((x - 1) % 7 == (f - 1) % 7)) := by
  obtain ⟨q, rfl⟩ : ∃ q, ev = 7 * q := ⟨ev / 7, by omega⟩
  have hq : 1 ≤ q := by omega
  rw [Int.mul_ediv_cancel_left _ (by omega : (7 : Int) ≠ 0)]
  obtain ⟨A, hA⟩ : ∃ A, A = (x - 1) / 7 := ⟨_, rfl⟩
  obtain ⟨B, hB⟩ : ∃ B, B = (f - 1) / 7 := ⟨_, rfl⟩
  obtain ⟨k, hk⟩ : ∃ k, k = (x - 1) % 7 := ⟨_, rfl⟩
  obtain ⟨j, hj⟩ : ∃ j, j = (f - 1) % 7 := ⟨_, rfl⟩
  rw [← hA, ← hB, ← hk, ← hj]
  have e1 : x - f = 7 * (A - B) + (k - j) := by omega
  have hAB : B ≤ A := by omega
  rw [Int.tmod_eq_emod_of_nonneg (by omega : 0 ≤ x - f), Int.tmod_eq_emod_of_nonneg (by omega : 0 ≤ A - B)]
  by_cases hkj : k = j
  · subst hkj
    rw [e1]
    have : (7 * (A - B) + (k - k)) % (7 * q) = 7 * ((A - B) % q) := by
      rw [Int.sub_self, Int.add_zero, Int.mul_emod_mul_of_pos _ _ (by omega)]
    rw [this]
    by_cases hz : (A - B) % q = 0
    · simp [hz]
    · have h7 : ¬ 7 * ((A - B) % q) = 0 := by omega
      rw [show (7 * ((A - B) % q) != 0) = true from by simpa using h7, show ((A - B) % q != 0) = true from by simpa using hz]
      simp
  · have hn : ¬ (x - f) % (7 * q) = 0 := by
      intro h
      have hd : (7 * q) ∣ (x - f) := Int.dvd_of_emod_eq_zero h
      have h7d : (7 : Int) ∣ (x - f) := Int.dvd_trans ⟨q, rfl⟩ hd
      omega
    have hb : (k == j) = false := by simpa using hkj
    rw [hb]
    simp [hn]
/-- The fields of the normal form. -/
def nU (u ev f : Int) (ws ms : List Int) : Int := if nC u ev f ws ms = true then 2 else u
def nE (u ev f : Int) (ws ms : List Int) : Int := if nC u ev f ws ms = true then ev / 7 else ev
def nWW (u ev f : Int) (ws ms : List Int) : List Int := if nC u ev f ws ms = true then [(f - 1) % 7] else nW u f ws ms
theorem norm_fit (u ev f : Int) (ws ms ns : List Int) (u1 : 1 ≤ u) (u2 : u ≤ 4) (e1 : 1 ≤ ev) (x : Int) (hx : f ≤ x) :
    fitR (nU u ev f ws ms) (nE u ev f ws ms) f (sortI (nWW u ev f ws ms)) (sortI (nM u f ws ms)) (sortI (nN u f ws ms ns)) x = fitR u ev f ws ms ns x := by
  rw [fitR_sort]
  have hd := gD_len x; have hd0 := gD_len f
  by_cases hC : nC u ev f ws ms = true
  · have hC2 := hC
    unfold nC at hC2
    simp only [Bool.and_eq_true, decide_eq_true_eq] at hC2
    obtain ⟨rfl, h7, hl⟩ := hC2
    have eW : nW 1 f ws ms = ws := by unfold nW; rw [if_neg (by omega)]
    have eM : nM 1 f ws ms = ms := by unfold nM; rw [if_neg (by omega)]
    have eN : nN 1 f ws ms ns = ns := by unfold nN; rw [if_neg (by omega)]
    rw [eW] at hl
    unfold nU nE nWW
    rw [if_pos hC, if_pos hC, if_pos hC, eM, eN]
    unfold fitR fitsB
    have t := tmod_split e1 h7 hx
    rw [listed_one]
    have f1 : fitsEnd 1 ws ms ns ((f - 1) % 7) (gM f) (gD f) ((x - 1) % 7) (gM x) (gD x) = true := by unfold fitsEnd; split <;> simp
    have f2 : fitsEnd 2 [(f - 1) % 7] ms ns ((f - 1) % 7) (gM f) (gD f) ((x - 1) % 7) (gM x) (gD x) = true := by
      unfold fitsEnd; rw [if_pos (by simp; omega)]
    rw [f1, f2]
    have g1 : unitOf 1 x (gY x) (gM x) - unitOf 1 f (gY f) (gM f) = x - f := by unfold unitOf; simp
    have g2 : unitOf 2 x (gY x) (gM x) - unitOf 2 f (gY f) (gM f) = (x - 1) / 7 - (f - 1) / 7 := by unfold unitOf; simp
    rw [g1, g2, t]
    by_cases hk : (x - 1) % 7 = (f - 1) % 7
    · rw [hk, hl]
      simp
    · have hb : ((x - 1) % 7 == (f - 1) % 7) = false := by simpa using hk
      rw [hb]
      simp
  · unfold nU nE nWW
    rw [if_neg hC, if_neg hC, if_neg hC]
    by_cases hA : ws.length + ms.length = 0
    · have hw : ws = [] := List.length_eq_zero_iff.1 (by omega)
      have hm : ms = [] := List.length_eq_zero_iff.1 (by omega)
      subst hw hm
      have : u = 1 ∨ u = 2 ∨ u = 3 ∨ u = 4 := by omega
      rcases this with rfl | rfl | rfl | rfl
      · simp [nW, nM, nN]
      · simp only [nW, nM, nN, List.length_nil, if_pos, and_self]
        rw [if_neg (by simp), if_neg (by simp)]
        unfold fitR fitsB
        rw [listed_one, listed_nil, listed_nil]
        simp [fitsEnd]
      · simp only [nW, nM, nN, List.length_nil]
        rw [if_neg (by simp), if_pos (by simp), if_neg (by simp)]
        unfold fitR fitsB
        rw [listed_nil, listed_nil, listed_two _ _ _ (by omega) hd0.1]
        simp [fitsEnd]
      · simp only [nW, nM, nN, List.length_nil]
        rw [if_neg (by simp), if_pos (by simp)]
        unfold fitR fitsB
        rw [listed_nil, listed_nil, listed_two _ _ _ (by omega) hd0.1]
        by_cases hn : ns = []
        · subst hn
          rw [if_pos (by simp), listed_one, listed_nil]
          cases hq : (gM x == gM f) <;> cases hq2 : (gD x == gD f) <;> simp [fitsEnd, hq, hq2]
        · have hl : 0 < ns.length := List.length_pos_iff.2 hn
          rw [if_neg (by simp; exact hn)]
          simp [fitsEnd, hl]
    · have eW : nW u f ws ms = ws := by unfold nW; rw [if_neg (by omega)]
      have eM : nM u f ws ms = ms := by unfold nM; rw [if_neg (by omega)]
      have eN : nN u f ws ms ns = ns := by unfold nN; rw [if_neg (by omega)]
      rw [eW, eM, eN]
theorem listP_congr {fit fit' : Int → Bool} (cn a : Int) : ∀ (n : Nat) (x c : Int), (∀ y, x ≤ y → fit y = fit' y) → listP fit cn a n x c = listP fit' cn a n x c
  | 0, _, _, _ => by simp [listP]
  | n + 1, x, c, h => by
    rw [listP, listP, h x (by omega), listP_congr cn a n (x + 1) c (fun y hy => h y (by omega)), listP_congr cn a n (x + 1) (c + 1) (fun y hy => h y (by omega))]
/-- The normal form has the same days. -/
theorem norm_days (u ev f cn un : Int) (ws ms ns : List Int) (u1 : 1 ≤ u) (u2 : u ≤ 4) (e1 : 1 ≤ ev) (b : Int) :
    daysL (nU u ev f ws ms) (nE u ev f ws ms) f cn un (sortI (nWW u ev f ws ms)) (sortI (nM u f ws ms)) (sortI (nN u f ws ms ns)) f b = daysL u ev f cn un ws ms ns f b := by
  unfold daysL
  refine listP_congr _ _ _ _ _ fun y hy => norm_fit u ev f ws ms ns u1 u2 e1 y ?_
  unfold lowOf at hy
  split at hy
  · split at hy <;> omega
  · exact hy
/-- The normal form is valid. -/
theorem norm_err {u ev f cn un : Int} {ws ms ns : List Int} (h : recurErr u ev f cn un ws ms ns = 0) :
    recurErr (nU u ev f ws ms) (nE u ev f ws ms) f cn un (sortI (nWW u ev f ws ms)) (sortI (nM u f ws ms)) (sortI (nN u f ws ms ns)) = 0 := by
  obtain ⟨p1, p2, p3, p4, p5⟩ : (1 ≤ u ∧ u ≤ 4) ∧ ((1 ≤ ev ∧ ev ≤ 1000) ∧ (-4000000 ≤ f ∧ f ≤ 4000000) ∧ (-4000000 ≤ un ∧ un ≤ 4000000) ∧ f ≤ un ∧ 0 ≤ cn ∧ cn ≤ 1000) ∧ listOut 0 6 true ws = 0 ∧ listOut (-31) 31 false ms = 0 ∧ listOut 1 12 true ns = 0 := by
    unfold recurErr at h
    split at h
    · omega
    rename_i h1
    split at h
    · omega
    rename_i h2
    split at h
    · rename_i h3; exact absurd h h3
    rename_i h3
    split at h
    · rename_i h4; exact absurd h h4
    rename_i h4
    exact ⟨by omega, by omega, by simpa using h3, by simpa using h4, h⟩
  have hd := gD_len f
  have hM := gM_in f
  have hm31 : mlen f ≤ 31 := (mlen_in f hM.1 hM.2).2
  have q1 : 1 ≤ nU u ev f ws ms ∧ nU u ev f ws ms ≤ 4 := by unfold nU; split <;> omega
  have q2 : 1 ≤ nE u ev f ws ms ∧ nE u ev f ws ms ≤ 1000 := by
    unfold nE
    split
    · rename_i hC
      unfold nC at hC
      simp only [Bool.and_eq_true, decide_eq_true_eq] at hC
      omega
    · omega
  have q3 : listOut 0 6 true (nWW u ev f ws ms) = 0 := by
    unfold nWW nW
    split
    · exact listOut_one (by omega) (by omega) (.inl rfl)
    · split
      · exact listOut_one (by omega) (by omega) (.inl rfl)
      · exact p3
  have q4 : listOut (-31) 31 false (nM u f ws ms) = 0 := by
    unfold nM
    split
    · exact listOut_one (by omega) (by omega) (.inr (by omega))
    · exact p4
  have q5 : listOut 1 12 true (nN u f ws ms ns) = 0 := by
    unfold nN
    split
    · exact listOut_one (by omega) (by omega) (.inl rfl)
    · exact p5
  unfold recurErr
  rw [if_neg (by omega), if_neg (by omega), if_neg (by rw [listOut_sort q3]; simp), if_neg (by rw [listOut_sort q4]; simp)]
  exact listOut_sort q5
end Go.Proofs.YtdmkghgachapaaaGreatDoor
