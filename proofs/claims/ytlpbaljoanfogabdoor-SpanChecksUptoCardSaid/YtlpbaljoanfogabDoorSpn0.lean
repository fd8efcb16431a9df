/- Texts of durations, plain: how they are written, the two ways to read them, and that the two agree. -/
import Derived.Test.YtlpbaljoanfogabDoorSpl
import Derived.Test.YtlpbaljoanfogabDoorRef
import Derived.Test.YtlpbaljoanfogabDoorTxt1
import Derived.Lib.SlTrimSet
namespace Go.Proofs.YtlpbaljoanfogabDoor
set_option linter.unusedVariables false
set_option linter.unusedSimpArgs false
set_option maxRecDepth 100000
open Go.RowKit

abbrev unL : List (List UInt8) := [[121], [109], [100], [109, 115]]
abbrev setD : List UInt8 := [45, 48, 49, 50, 51, 52, 53, 54, 55, 56, 57]
abbrev setU : List UInt8 := [121, 109, 100, 115]
def unK (k : Nat) : List UInt8 := unL.getD k []
/-- A part of a duration: nothing where the number is zero. -/
def partP (k : Nat) (n : Int) : List (List UInt8) := if n = 0 then [] else [Lib.itoa n ++ unK k]
/-- The parts from number a on. -/
def tailP (x : Nat → Int) (a : Nat) : List (List UInt8) := ((List.range 4).drop a).flatMap fun k => partP k (x k)
def lenS (x : Nat → Int) : List UInt8 := if tailP x 0 = [] then [48, 100] else Lib.join (tailP x 0) [32]
def okLen (x : Nat → Int) : Bool := inB (-10000) 10000 (x 0) && inB (-10000) 10000 (x 1) && inB (-8000000) 8000000 (x 2) && inB (-345600000000000) 345600000000000 (x 3)
def setK (v : Nat → Int) (k : Nat) (n : Int) : Nat → Int := fun j => if j = k then n else v j
/-- A word as it is read by the program. -/
def digW (w : List UInt8) : List UInt8 := Lib.trimRightS w setU
def stepL (v : Nat → Int) (w : List UInt8) : Nat → Int :=
  let u := w.drop (digW w).length
  if u = [121] then setK v 0 (atoiV (digW w)) else if u = [109] then setK v 1 (atoiV (digW w)) else if u = [100] then setK v 2 (atoiV (digW w)) else if u = [109, 115] then setK v 3 (atoiV (digW w)) else v
def zeroV : Nat → Int := fun _ => 0
def readL (s : List UInt8) : Nat → Int := (spl 32 s).foldl stepL zeroV
/-- A word as it is read by the reference. -/
def unitW (w : List UInt8) : List UInt8 := Lib.trimLeftS w setD
def idxK (u : List UInt8) : Int := if u = [109, 115] then 3 else if u = [100] then 2 else if u = [109] then 1 else if u = [121] then 0 else -1
def refV : Int → (Nat → Int) → List (List UInt8) → Option (Nat → Int)
  | _, v, [] => some v
  | at', v, w :: r => if idxK (unitW w) ≤ at' ∨ Num.plainOk (Lib.trimSuffix w (unitW w)) = false ∨ Num.plainNum (Lib.trimSuffix w (unitW w)) = 0 then none
    else refV (idxK (unitW w)) (setK v (idxK (unitW w)).toNat (Num.plainNum (Lib.trimSuffix w (unitW w)))) r
def okSp (s : List UInt8) : Bool := okLen (readL s) && (lenS (readL s) == s)

theorem tailP_step (x : Nat → Int) {a : Nat} (h : a < 4) : tailP x a = partP a (x a) ++ tailP x (a + 1) := by
  unfold tailP
  have : (List.range 4).drop a = a :: (List.range 4).drop (a + 1) := by
    rcases (show a = 0 ∨ a = 1 ∨ a = 2 ∨ a = 3 by omega) with rfl | rfl | rfl | rfl <;> rfl
  rw [this, List.flatMap_cons]
theorem tailP_end (x : Nat → Int) {a : Nat} (h : 4 ≤ a) : tailP x a = [] := by
  unfold tailP
  rw [List.drop_eq_nil_of_le (by simp; omega)]; rfl
theorem tailP_congr {x y : Nat → Int} (h : ∀ j, j < 4 → x j = y j) (a : Nat) : tailP x a = tailP y a := by
  unfold tailP
  have : ∀ k ∈ (List.range 4).drop a, partP k (x k) = partP k (y k) := fun k hk => by
    rw [h k (List.mem_range.1 (List.mem_of_mem_drop hk))]
  rw [List.flatMap_def, List.flatMap_def, List.map_congr_left this]
theorem lenS_congr {x y : Nat → Int} (h : ∀ j, j < 4 → x j = y j) : lenS x = lenS y := by unfold lenS; rw [tailP_congr h]
theorem okLen_congr {x y : Nat → Int} (h : ∀ j, j < 4 → x j = y j) : okLen x = okLen y := by
  unfold okLen
  rw [h 0 (by omega), h 1 (by omega), h 2 (by omega), h 3 (by omega)]
theorem tailP_skip {x : Nat → Int} : ∀ (d a : Nat), a + d ≤ 4 → (∀ j, a ≤ j → j < a + d → x j = 0) → tailP x a = tailP x (a + d)
  | 0, a, _, _ => rfl
  | d + 1, a, h, hz => by
    rw [tailP_step x (by omega), partP, if_pos (hz a (by omega) (by omega)), List.nil_append, tailP_skip d (a + 1) (by omega) fun j h1 h2 => hz j (by omega) (by omega), show a + 1 + d = a + (d + 1) by omega]
theorem itoa_ne_nil (n : Int) : Lib.itoa n ≠ [] := by
  intro h
  have h1 := (Num.atoi_itoa 0 (by omega) (by omega))
  by_cases hn : n < 0
  · have e : n = -(((-n).toNat : Nat) : Int) := by omega
    rw [e, Num.itoa_minus _ (by omega)] at h; cases h
  · have e : n = ((n.toNat : Nat) : Int) := by omega
    rw [e, Num.itoa_nat] at h
    exact Num.dd_ne _ h
theorem itoa_last (n : Int) : ∀ x ∈ Lib.itoa n, setD.contains x = true ∧ setU.contains x = false := by
  intro x hx
  have key : x = 45 ∨ (48 ≤ x.toNat ∧ x.toNat ≤ 57) := itoa_bytes n x hx
  have hall : ∀ k : Fin 256, (UInt8.ofNat k.val = 45 ∨ (48 ≤ (UInt8.ofNat k.val).toNat ∧ (UInt8.ofNat k.val).toNat ≤ 57)) → setD.contains (UInt8.ofNat k.val) = true ∧ setU.contains (UInt8.ofNat k.val) = false := by decide
  have e : UInt8.ofNat x.toNat = x := by simp
  have h2 := hall ⟨x.toNat, x.toNat_lt⟩
  simp only [e] at h2
  exact h2 key
theorem dw_app {p : UInt8 → Bool} : ∀ (l r : List UInt8), (∀ x ∈ l, p x = true) → (l ++ r).dropWhile p = r.dropWhile p
  | [], r, _ => rfl
  | b :: l, r, h => by rw [List.cons_append, List.dropWhile_cons_of_pos (h b (by simp)), dw_app l r fun x hx => h x (by simp [hx])]
theorem dw_stop {p : UInt8 → Bool} : ∀ (l : List UInt8), (∀ x, l.head? = some x → p x = false) → l.dropWhile p = l
  | [], _ => rfl
  | b :: l, h => by rw [List.dropWhile_cons_of_neg (by rw [h b rfl]; simp)]
theorem unK_head (k : Nat) : ∀ x, (unK k).head? = some x → setD.contains x = false := by
  intro x
  match k with
  | 0 => unfold unK; intro h; simp at h; subst h; decide
  | 1 => unfold unK; intro h; simp at h; subst h; decide
  | 2 => unfold unK; intro h; simp at h; subst h; decide
  | 3 => unfold unK; intro h; simp at h; subst h; decide
  | k + 4 => unfold unK; intro h; simp at h
theorem unK_set (k : Nat) : ∀ x ∈ unK k, setU.contains x = true := by
  match k with
  | 0 => decide
  | 1 => decide
  | 2 => decide
  | 3 => decide
  | k + 4 => unfold unK; simp
theorem unit_word (n : Int) (k : Nat) : unitW (Lib.itoa n ++ unK k) = unK k := by
  unfold unitW Lib.trimLeftS
  rw [dw_app _ _ fun x hx => (itoa_last n x hx).1, dw_stop _ (unK_head k)]
theorem dig_word (n : Int) (k : Nat) : digW (Lib.itoa n ++ unK k) = Lib.itoa n := by
  unfold digW Lib.trimRightS
  rw [List.reverse_append, dw_app _ _ fun x hx => unK_set k x (List.mem_reverse.1 hx), dw_stop _ fun x hx => ?_, List.reverse_reverse]
  exact (itoa_last n x (List.mem_reverse.1 (List.mem_of_mem_head? hx))).2
theorem suffix_word (a u : List UInt8) : Lib.trimSuffix (a ++ u) u = a := by
  unfold Lib.trimSuffix Lib.hasSuffix
  have : u.isSuffixOf (a ++ u) = true := by
    rw [List.isSuffixOf_iff_suffix]; exact ⟨a, rfl⟩
  simp [this]
theorem idx_un {k : Nat} (h : k < 4) : idxK (unK k) = k := by
  rcases (show k = 0 ∨ k = 1 ∨ k = 2 ∨ k = 3 by omega) with rfl | rfl | rfl | rfl <;> decide
theorem un_idx {u : List UInt8} {k : Nat} (h : idxK u = k) : k < 4 ∧ u = unK k := by
  unfold idxK at h
  split at h
  · rename_i e; obtain rfl : k = 3 := by omega
    exact ⟨by omega, e⟩
  split at h
  · rename_i e; obtain rfl : k = 2 := by omega
    exact ⟨by omega, e⟩
  split at h
  · rename_i e; obtain rfl : k = 1 := by omega
    exact ⟨by omega, e⟩
  split at h
  · rename_i e; obtain rfl : k = 0 := by omega
    exact ⟨by omega, e⟩
  · omega
theorem idxK_ge (u : List UInt8) : -1 ≤ idxK u ∧ idxK u ≤ 3 := by
  unfold idxK
  split
  · omega
  split
  · omega
  split
  · omega
  split
  · omega
  · omega
/-- The program's step at a word of the text. -/
theorem stepL_word (v : Nat → Int) {n : Int} {k : Nat} (h : k < 4) (h0 : -9223372036854775808 ≤ n) (h1 : n ≤ 9223372036854775807) : stepL v (Lib.itoa n ++ unK k) = setK v k n := by
  unfold stepL
  rw [dig_word]
  have e : (Lib.itoa n ++ unK k).drop (Lib.itoa n).length = unK k := by simp
  simp only [e, (atoiV_itoa h0 h1).1]
  rcases (show k = 0 ∨ k = 1 ∨ k = 2 ∨ k = 3 by omega) with rfl | rfl | rfl | rfl <;> rfl
theorem fold_tail (x : Nat → Int) (hx : ∀ j, -9223372036854775808 ≤ x j ∧ x j ≤ 9223372036854775807) : ∀ (d a : Nat) (v : Nat → Int), a + d = 4 → (∀ j, a ≤ j → v j = 0) → ∀ j, j < 4 → (tailP x a).foldl stepL v j = if a ≤ j then x j else v j
  | 0, a, v, h, hv, j, hj => by rw [tailP_end x (by omega), if_neg (by omega)]; rfl
  | d + 1, a, v, h, hv, j, hj => by
    rw [tailP_step x (by omega), List.foldl_append, partP]
    by_cases hz : x a = 0
    · rw [if_pos hz, List.foldl_nil, fold_tail x hx d (a + 1) v (by omega) (fun j hj => hv j (by omega)) j hj]
      by_cases hja : j = a
      · subst hja; rw [if_neg (by omega), if_pos (Nat.le_refl _), hv j (Nat.le_refl _), hz]
      · by_cases hle : a ≤ j
        · rw [if_pos (by omega), if_pos hle]
        · rw [if_neg (by omega), if_neg hle]
    · rw [if_neg hz, List.foldl_cons, List.foldl_nil, stepL_word v (by omega) (hx a).1 (hx a).2, fold_tail x hx d (a + 1) _ (by omega) (fun j hj => by rw [setK, if_neg (by omega)]; exact hv j (by omega)) j hj]
      by_cases hja : j = a
      · subst hja; rw [if_neg (by omega), if_pos (Nat.le_refl _), setK, if_pos rfl]
      · by_cases hle : a ≤ j
        · rw [if_pos (by omega), if_pos hle]
        · rw [if_neg (by omega), if_neg hle, setK, if_neg hja]
theorem refV_tail (x : Nat → Int) (hx : ∀ j, -100000000000000000 < x j ∧ x j < 100000000000000000) : ∀ (d a : Nat) (at' : Int) (v : Nat → Int), a + d = 4 → at' < a → (∀ j, a ≤ j → v j = 0) → ∃ y, refV at' v (tailP x a) = some y ∧ ∀ j, j < 4 → y j = if a ≤ j then x j else v j
  | 0, a, at', v, h, ha, hv => ⟨v, by rw [tailP_end x (by omega), refV], fun j hj => by rw [if_neg (by omega)]⟩
  | d + 1, a, at', v, h, ha, hv => by
    rw [tailP_step x (by omega), partP]
    by_cases hz : x a = 0
    · rw [if_pos hz, List.nil_append]
      obtain ⟨y, h1, h2⟩ := refV_tail x hx d (a + 1) at' v (by omega) (by omega) (fun j hj => hv j (by omega))
      refine ⟨y, h1, fun j hj => ?_⟩
      rw [h2 j hj]
      by_cases hja : j = a
      · subst hja; rw [if_neg (by omega), if_pos (Nat.le_refl _), hv j (Nat.le_refl _), hz]
      · by_cases hle : a ≤ j
        · rw [if_pos (by omega), if_pos hle]
        · rw [if_neg (by omega), if_neg hle]
    · rw [if_neg hz, List.singleton_append, refV, unit_word, idx_un (by omega), suffix_word, (Num.plain_itoa _ (hx a).1 (hx a).2).1, (Num.plain_itoa _ (hx a).1 (hx a).2).2]
      rw [if_neg (by simp; exact ⟨by omega, hz⟩)]
      obtain ⟨y, h1, h2⟩ := refV_tail x hx d (a + 1) (a : Int) (setK v a (x a)) (by omega) (by omega) (fun j hj => by rw [setK, if_neg (by omega)]; exact hv j (by omega))
      refine ⟨y, by rw [Int.toNat_natCast]; exact h1, fun j hj => ?_⟩
      rw [h2 j hj]
      by_cases hja : j = a
      · subst hja; rw [if_neg (by omega), if_pos (Nat.le_refl _), setK, if_pos rfl]
      · by_cases hle : a ≤ j
        · rw [if_pos (by omega), if_pos hle]
        · rw [if_neg (by omega), if_neg hle, setK, if_neg hja]
theorem suffix_dw (p : UInt8 → Bool) (w : List UInt8) : ∃ a, w = a ++ w.dropWhile p := ⟨w.takeWhile p, (List.takeWhile_append_dropWhile).symm⟩
theorem refV_inv : ∀ (ps : List (List UInt8)) (a : Nat) (v x : Nat → Int), a ≤ 4 → refV ((a : Int) - 1) v ps = some x → (∀ j, a ≤ j → v j = 0) → ps = tailP x a ∧ ∀ j, j < a → x j = v j
  | [], a, v, x, ha, h, hv => by
    rw [refV] at h
    obtain rfl : v = x := by simpa using h
    refine ⟨?_, fun _ _ => rfl⟩
    rw [tailP_skip (4 - a) a (by omega) fun j h1 _ => hv j h1, tailP_end _ (by omega)]
  | w :: r, a, v, x, ha, h, hv => by
    rw [refV] at h
    split at h
    · cases h
    rename_i hc
    have hc1 : ¬ idxK (unitW w) ≤ (a : Int) - 1 := fun e => hc (.inl e)
    have hc2 : Num.plainOk (Lib.trimSuffix w (unitW w)) = true := by
      cases hb : Num.plainOk (Lib.trimSuffix w (unitW w)) with
      | true => rfl
      | false => exact absurd (.inr (.inl hb)) hc
    have hc3 : Num.plainNum (Lib.trimSuffix w (unitW w)) ≠ 0 := fun e => hc (.inr (.inr e))
    obtain ⟨k, hk⟩ : ∃ k : Nat, idxK (unitW w) = k := ⟨(idxK (unitW w)).toNat, by omega⟩
    obtain ⟨hk4, hu⟩ := un_idx hk
    rw [hk, Int.toNat_natCast] at h
    obtain ⟨t, ht⟩ := suffix_dw (setD.contains ·) w
    have ht' : w = t ++ unitW w := ht
    have hts : Lib.trimSuffix w (unitW w) = t := by
      conv => lhs; arg 1; rw [ht']
      exact suffix_word t _
    rw [hts] at h hc2 hc3
    have ih := refV_inv r (k + 1) (setK v k (Num.plainNum t)) x (by omega) (by rw [show ((k + 1 : Nat) : Int) - 1 = (k : Int) by omega]; exact h) (fun j hj => by rw [setK, if_neg (by omega)]; exact hv j (by omega))
    have hxk : x k = Num.plainNum t := by rw [ih.2 k (by omega), setK, if_pos rfl]
    refine ⟨?_, fun j hj => ?_⟩
    · rw [tailP_skip (k - a) a (by omega) fun j h1 h2 => by rw [ih.2 j (by omega), setK, if_neg (by omega)]; exact hv j h1, show a + (k - a) = k by omega, tailP_step x hk4, partP, if_neg (by rw [hxk]; exact hc3), hxk, Num.itoa_plain hc2, ← hu, ← ht', ← ih.1]
      rfl
    · rw [ih.2 j (by omega), setK, if_neg (by omega)]
theorem tailP_clean (x : Nat → Int) (a : Nat) : ∀ p ∈ tailP x a, ∀ y ∈ p, y ≠ 32 := by
  intro p hp y hy
  unfold tailP at hp
  obtain ⟨k, hk, hp⟩ := List.mem_flatMap.1 hp
  unfold partP at hp
  split at hp
  · cases hp
  · simp at hp; subst hp
    rcases List.mem_append.1 hy with hy | hy
    · exact itoa_clean _ 32 (by decide) (by decide) y hy
    · rintro rfl
      have := unK_set k 32 hy
      exact absurd this (by decide)
theorem spl_join (c : UInt8) {ps : List (List UInt8)} (hne : ps ≠ []) (hc : ∀ p ∈ ps, ∀ x ∈ p, x ≠ c) : spl c (Lib.join ps [c]) = ps := by
  cases ps with
  | nil => exact absurd rfl hne
  | cons a r => rw [join_glue, spl_glue c a r (hc a (by simp)) fun p hp => hc p (by simp [hp])]
theorem join_spl (c : UInt8) (l : List UInt8) : Lib.join (spl c l) [c] = l := by
  obtain ⟨h, t, e⟩ := spl_cons c l
  have := glue_spl c l
  rw [e] at this ⊢
  rw [join_glue]; exact this
theorem okLen_bounds {x : Nat → Int} (h : okLen x = true) : ∀ j, j < 4 → -345600000000000 ≤ x j ∧ x j ≤ 345600000000000 := by
  unfold okLen at h
  rw [Bool.and_eq_true, Bool.and_eq_true, Bool.and_eq_true] at h
  obtain ⟨⟨⟨h0, h1⟩, h2⟩, h3⟩ := h
  have f : ∀ {lo hi n : Int}, inB lo hi n = true → lo ≤ n ∧ n ≤ hi := fun {lo hi n} h => by
    rcases inB_cases lo hi n with ⟨_, a, b⟩ | ⟨a, _⟩
    · exact ⟨a, b⟩
    · rw [h] at a; cases a
  intro j hj
  have a0 := f h0; have a1 := f h1; have a2 := f h2; have a3 := f h3
  rcases (show j = 0 ∨ j = 1 ∨ j = 2 ∨ j = 3 by omega) with rfl | rfl | rfl | rfl <;> omega
def cut4 (x : Nat → Int) : Nat → Int := fun j => if j < 4 then x j else 0
theorem cut4_in (x : Nat → Int) : ∀ j, j < 4 → cut4 x j = x j := fun j h => if_pos h
theorem cut4_bounds {x : Nat → Int} (h : okLen x = true) : ∀ j, -345600000000000 ≤ cut4 x j ∧ cut4 x j ≤ 345600000000000 := fun j => by
  unfold cut4
  split
  · rename_i hj; exact okLen_bounds h j hj
  · omega
/-- A text that is written of a fit duration is read alike by both. -/
theorem span_written {x : Nat → Int} {s : List UInt8} (h : okLen x = true) (hs : lenS x = s) (hne : s ≠ [48, 100]) : (∃ y, refV (-1) zeroV (spl 32 s) = some y ∧ ∀ j, j < 4 → y j = x j) ∧ ∀ j, j < 4 → readL s j = x j := by
  have hb := cut4_bounds h
  have hP : spl 32 s = tailP (cut4 x) 0 := by
    unfold lenS at hs
    split at hs
    · exact absurd hs.symm hne
    · rename_i hn
      rw [← hs, spl_join 32 hn (tailP_clean x 0)]
      exact tailP_congr (fun j hj => (cut4_in x j hj).symm) 0
  obtain ⟨y, h1, h2⟩ := refV_tail (cut4 x) (fun j => by have := hb j; omega) 4 0 (-1) zeroV rfl (by omega) (fun _ _ => rfl)
  refine ⟨⟨y, by rw [hP]; exact h1, fun j hj => ?_⟩, fun j hj => ?_⟩
  · rw [h2 j hj, if_pos (Nat.zero_le _), cut4_in x j hj]
  · unfold readL
    rw [hP, fold_tail (cut4 x) (fun j => by have := hb j; omega) 4 0 zeroV rfl (fun _ _ => rfl) j hj, if_pos (Nat.zero_le _), cut4_in x j hj]
theorem span_zero : okSp [48, 100] = true ∧ ∀ j, j < 4 → readL [48, 100] j = 0 := by
  have h : ∀ j, j < 4 → readL [48, 100] j = 0 := by
    intro j hj
    rcases (show j = 0 ∨ j = 1 ∨ j = 2 ∨ j = 3 by omega) with rfl | rfl | rfl | rfl <;> decide +kernel
  refine ⟨?_, h⟩
  unfold okSp
  rw [okLen_congr (y := zeroV) h, lenS_congr (y := zeroV) h]
  decide
/-- Both readers agree. -/
theorem span_read (s : List UInt8) (hne : s ≠ [48, 100]) : match refV (-1) zeroV (spl 32 s) with
    | some y => okSp s = okLen y ∧ (okLen y = true → ∀ j, j < 4 → readL s j = y j)
    | none => okSp s = false := by
  cases hr : refV (-1) zeroV (spl 32 s) with
  | none =>
    show okSp s = false
    cases ho : okSp s with
    | false => rfl
    | true =>
      unfold okSp at ho
      rw [Bool.and_eq_true] at ho
      obtain ⟨⟨y, h1, _⟩, _⟩ := span_written ho.1 (eq_of_beq ho.2) hne
      rw [hr] at h1; cases h1
  | some y =>
    show okSp s = okLen y ∧ (okLen y = true → ∀ j, j < 4 → readL s j = y j)
    have hinv := refV_inv (spl 32 s) 0 zeroV y (by omega) hr (fun _ _ => rfl)
    have hS : lenS y = s := by
      obtain ⟨a, t, e⟩ := spl_cons 32 s
      unfold lenS
      rw [if_neg (by rw [← hinv.1, e]; simp), ← hinv.1, join_spl]
    cases ho : okLen y with
    | true =>
      obtain ⟨_, hrd⟩ := span_written ho hS hne
      refine ⟨?_, fun _ => hrd⟩
      unfold okSp
      rw [okLen_congr hrd, lenS_congr hrd, ho, hS]
      simp
    | false =>
      refine ⟨?_, fun h => by cases h⟩
      cases hk : okSp s with
      | false => rfl
      | true =>
        unfold okSp at hk
        rw [Bool.and_eq_true] at hk
        obtain ⟨⟨z, h1, h2⟩, _⟩ := span_written hk.1 (eq_of_beq hk.2) hne
        rw [hr] at h1
        obtain rfl : y = z := by simpa using h1
        rw [okLen_congr h2, hk.1] at ho; cases ho
end Go.Proofs.YtlpbaljoanfogabDoor
