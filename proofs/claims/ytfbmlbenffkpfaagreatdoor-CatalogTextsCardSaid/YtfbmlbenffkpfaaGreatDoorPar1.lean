/- Tokens by positions in a line, and word by word: both give the tokens. -/
import Derived.Test.YtfbmlbenffkpfaaGreatDoorPar0
namespace Go.Proofs.YtfbmlbenffkpfaaGreatDoor
set_option linter.unusedVariables false

def inR (lo hi : Nat) (c : UInt8) : Bool := decide (lo ≤ c.toNat) && decide (c.toNat ≤ hi)
def runLen (p : UInt8 → Bool) : List UInt8 → Nat
  | [] => 0
  | c :: r => if p c = true then runLen p r + 1 else 0
/-- The end of the run of bytes that p takes. -/
def runTo (p : UInt8 → Bool) (s : List UInt8) (i : Nat) : Nat := i + runLen p (s.drop i)
theorem runLen_le (p : UInt8 → Bool) : ∀ l : List UInt8, runLen p l ≤ l.length
  | [] => Nat.le_refl _
  | c :: r => by
    rw [runLen]; have := runLen_le p r
    split <;> simp <;> omega
theorem runTo_le (p : UInt8 → Bool) (s : List UInt8) (i : Nat) (h : i ≤ s.length) : runTo p s i ≤ s.length := by
  have := runLen_le p (s.drop i)
  rw [List.length_drop] at this
  unfold runTo; omega
theorem runTo_ge (p : UInt8 → Bool) (s : List UInt8) (i : Nat) : i ≤ runTo p s i := by unfold runTo; omega
theorem runTo_end (p : UInt8 → Bool) (s : List UInt8) (i : Nat) (h : s.length ≤ i) : runTo p s i = i := by
  unfold runTo; rw [List.drop_eq_nil_of_le h]; rfl
theorem runTo_yes (p : UInt8 → Bool) (s : List UInt8) (i : Nat) (c : UInt8) (h : s[i]? = some c) (hp : p c = true) : runTo p s i = runTo p s (i + 1) := by
  obtain ⟨hl, rfl⟩ := List.getElem?_eq_some_iff.1 h
  unfold runTo
  rw [List.drop_eq_getElem_cons hl, runLen, if_pos hp]; omega
theorem runTo_no (p : UInt8 → Bool) (s : List UInt8) (i : Nat) (c : UInt8) (h : s[i]? = some c) (hp : p c = false) : runTo p s i = i := by
  obtain ⟨hl, rfl⟩ := List.getElem?_eq_some_iff.1 h
  unfold runTo
  rw [List.drop_eq_getElem_cons hl, runLen, if_neg (by rw [hp]; simp)]; rfl

theorem cls_blank : cls 32 = 0 := by decide
theorem cls_1 (c : UInt8) : inR 97 122 c = decide (cls c = 1) := by
  unfold inR cls
  by_cases h : 97 ≤ c.toNat ∧ c.toNat ≤ 122
  · rw [if_pos h, decide_eq_true h.1, decide_eq_true h.2]; rfl
  · rw [if_neg h]
    have h1 : (decide (97 ≤ c.toNat) && decide (c.toNat ≤ 122)) = false := by rw [Bool.and_eq_false_iff]; by_cases h2 : 97 ≤ c.toNat <;> simp [h2]; omega
    rw [h1]; split <;> rfl
theorem cls_2 (c : UInt8) : inR 48 57 c = decide (cls c = 2) := by
  unfold inR cls
  by_cases h : 48 ≤ c.toNat ∧ c.toNat ≤ 57
  · rw [if_neg (by omega), if_pos h, decide_eq_true h.1, decide_eq_true h.2]; rfl
  · rw [if_neg h]
    have h1 : (decide (48 ≤ c.toNat) && decide (c.toNat ≤ 57)) = false := by rw [Bool.and_eq_false_iff]; by_cases h2 : 48 ≤ c.toNat <;> simp [h2]; omega
    rw [h1]; split <;> rfl
theorem blank_inR (c : UInt8) : inR 32 32 c = decide (c = 32) := by
  unfold inR
  by_cases h : c = 32
  · subst h; rfl
  · have : c.toNat ≠ 32 := fun e => h (UInt8.toNat_inj.1 e)
    rw [decide_eq_false h]
    by_cases h2 : 32 ≤ c.toNat
    · rw [decide_eq_true h2, decide_eq_false (by omega)]; rfl
    · rw [decide_eq_false h2]; rfl
theorem cls_ne {c : UInt8} (h : cls c ≠ 0) : c ≠ 32 := by rintro rfl; exact h cls_blank
theorem toks_blank : ∀ r : List UInt8, toks r = toks (r.drop (runLen (inR 32 32) r))
  | [] => rfl
  | c :: r => by
    rw [runLen, blank_inR]
    by_cases h : c = 32
    · rw [if_pos (decide_eq_true h), toks, if_pos h, List.drop_succ_cons]; exact toks_blank r
    · rw [if_neg (by simpa using h)]; rfl
theorem toks_one {c : UInt8} (r : List UInt8) (h : cls c = 0) (hc : c ≠ 32) : toks (c :: r) = [c] :: toks r := by
  rw [toks, if_neg hc, glue, if_neg (by omega)]
theorem toks_run (k : Nat) (hk : k ≠ 0) : ∀ (r : List UInt8) (c : UInt8), cls c = k → toks (c :: r) = (c :: r).take (runLen (fun d => decide (cls d = k)) (c :: r)) :: toks ((c :: r).drop (runLen (fun d => decide (cls d = k)) (c :: r)))
  | [], c, h => by
    have hc : c ≠ 32 := cls_ne (by omega)
    simp [toks, hc, runLen, h, glue]
  | d :: r, c, h => by
    have hc : c ≠ 32 := cls_ne (by omega)
    rw [toks, if_neg hc, runLen, if_pos (decide_eq_true h)]
    by_cases hd' : cls d = k
    · rw [toks_run k hk r d hd', glue, if_pos ⟨by omega, by simp [hd', h]⟩]
      simp
    · rw [glue, if_neg (by simp [h, hd'])]
      rw [runLen, if_neg (by simpa using hd')]
      simp
theorem runLen_congr {p q : UInt8 → Bool} (h : ∀ c, p c = q c) (l : List UInt8) : runLen p l = runLen q l := by
  have : p = q := funext h
  rw [this]
/-- Where the next token lies: behind position n. -/
def scanAt (s : List UInt8) (n : Nat) : Nat := runTo (inR 32 32) s n
def scanNx (s : List UInt8) (n : Nat) : Nat :=
  let a := scanAt s n
  let m := max (runTo (inR 97 122) s a) (runTo (inR 48 57) s a)
  if m = a ∧ a < s.length then m + 1 else m
/-- A reader's positions and the tokens from the present one on. -/
def Pos (s : List UInt8) (a n : Nat) (l : List Tok) : Prop := a ≤ n ∧ n ≤ s.length ∧ hd l = (s.drop a).take (n - a) ∧ l.tail = toks (s.drop n) ∧ (l = [] ↔ a = n)
theorem scan_pos (s : List UInt8) (n : Nat) (hn : n ≤ s.length) : Pos s (scanAt s n) (scanNx s n) (toks (s.drop n)) := by
  have ha : scanAt s n ≤ s.length := runTo_le (inR 32 32) s n hn
  have e0 : toks (s.drop n) = toks (s.drop (scanAt s n)) := by
    rw [toks_blank (s.drop n), List.drop_drop]; rfl
  have hnb : ∀ c r, s.drop (scanAt s n) = c :: r → c ≠ 32 := by
    intro c r hc h
    have : ∀ l : List UInt8, ∀ c r, l.drop (runLen (inR 32 32) l) = c :: r → c ≠ 32 := by
      intro l
      induction l with
      | nil => intro c r h; simp [runLen] at h
      | cons d l ih =>
        intro c r h
        rw [runLen] at h
        by_cases hd' : inR 32 32 d = true
        · rw [if_pos hd', List.drop_succ_cons] at h; exact ih c r h
        · rw [if_neg hd'] at h
          simp at h
          rw [blank_inR] at hd'
          rw [← h.1]; simpa using hd'
    refine this (s.drop n) c r ?_ h
    rw [List.drop_drop]; exact hc
  rw [e0]
  have hdl : (s.drop (scanAt s n)).length = s.length - scanAt s n := List.length_drop
  have h1 : runTo (inR 97 122) s (scanAt s n) = scanAt s n + runLen (fun d => decide (cls d = 1)) (s.drop (scanAt s n)) := by
    unfold runTo; rw [runLen_congr cls_1]
  have h2 : runTo (inR 48 57) s (scanAt s n) = scanAt s n + runLen (fun d => decide (cls d = 2)) (s.drop (scanAt s n)) := by
    unfold runTo; rw [runLen_congr cls_2]
  have hnx : scanNx s n = if max (runTo (inR 97 122) s (scanAt s n)) (runTo (inR 48 57) s (scanAt s n)) = scanAt s n ∧ scanAt s n < s.length then max (runTo (inR 97 122) s (scanAt s n)) (runTo (inR 48 57) s (scanAt s n)) + 1 else max (runTo (inR 97 122) s (scanAt s n)) (runTo (inR 48 57) s (scanAt s n)) := rfl
  rw [hnx, h1, h2]
  generalize scanAt s n = a at *
  clear h1 h2 hnx e0 hn
  cases hs : s.drop a with
  | nil =>
    rw [hs] at hdl
    simp at hdl
    have : a = s.length := by omega
    subst this
    simp only [runLen, Nat.add_zero, Nat.max_self, Nat.lt_irrefl, and_false, if_false]
    refine ⟨Nat.le_refl _, Nat.le_refl _, ?_, ?_, ?_⟩
    · simp [hd, toks]
    · rw [hs]; rfl
    · simp [toks]
  | cons c r =>
    rw [hs] at hdl
    have hc := hnb c r hs
    have hlt : a < s.length := by simp at hdl; omega
    have dr : ∀ k, (c :: r).drop k = s.drop (a + k) := fun k => by rw [← hs, List.drop_drop]
    have big : ∀ k, k ≠ 0 → cls c = k → 1 ≤ runLen (fun d => decide (cls d = k)) (c :: r) := fun k hk h => by rw [runLen, if_pos (decide_eq_true h)]; omega
    have small : ∀ k, cls c ≠ k → runLen (fun d => decide (cls d = k)) (c :: r) = 0 := fun k h => by rw [runLen, if_neg (by simpa using h)]
    have le_ : ∀ k, runLen (fun d => decide (cls d = k)) (c :: r) ≤ s.length - a := fun k => by rw [← hdl]; exact runLen_le _ _
    have fin : ∀ k, k ≠ 0 → cls c = k → ∀ m, m = a + runLen (fun d => decide (cls d = k)) (c :: r) → Pos s a m (toks (c :: r)) := by
      intro k hk h m hm
      have hb := big k hk h
      have hl := le_ k
      rw [toks_run k hk r c h]
      refine ⟨by omega, by omega, ?_, ?_, ?_⟩
      · rw [hs, hm, Nat.add_sub_cancel_left]; rfl
      · rw [List.tail_cons, hm, dr]
      · simp; omega
    by_cases c1 : cls c = 1
    · have hb := big 1 (by omega) c1
      rw [small 2 (by omega)]
      rw [show max (a + runLen (fun d => decide (cls d = 1)) (c :: r)) (a + 0) = a + runLen (fun d => decide (cls d = 1)) (c :: r) by omega, if_neg (by omega)]
      exact fin 1 (by omega) c1 _ rfl
    · by_cases c2 : cls c = 2
      · have hb := big 2 (by omega) c2
        rw [small 1 (by omega)]
        rw [show max (a + 0) (a + runLen (fun d => decide (cls d = 2)) (c :: r)) = a + runLen (fun d => decide (cls d = 2)) (c :: r) by omega, if_neg (by omega)]
        exact fin 2 (by omega) c2 _ rfl
      · have c0 : cls c = 0 := by unfold cls at c1 c2 ⊢; split <;> simp_all
        rw [small 1 c1, small 2 c2, Nat.add_zero, Nat.max_self, if_pos ⟨rfl, hlt⟩, toks_one r c0 hc]
        refine ⟨by omega, by omega, ?_, ?_, ?_⟩
        · rw [hs, Nat.add_sub_cancel_left]; rfl
        · rw [List.tail_cons, ← dr 1]; rfl
        · simp

/-- The tokens as they are found word by word. -/
def wordsGo (out : List Tok) (kind : Nat) : List UInt8 → List Tok
  | [] => out
  | c :: r => if c = 32 then wordsGo out 0 r else
    if cls c ≠ 0 ∧ cls c = kind then wordsGo (out.set (out.length - 1) (out.getD (out.length - 1) [] ++ [c])) (cls c) r
    else wordsGo (out ++ [[c]]) (cls c) r
theorem wordsGo_toks : ∀ (r : List UInt8) (out : List Tok) (kind : Nat),
    wordsGo out kind r = (if kind ≠ 0 ∧ r.head?.map cls = some kind ∧ out ≠ [] then out.dropLast ++ (out.getLastD [] ++ (toks r).headD []) :: (toks r).tail else out ++ toks r) ∨ (kind ≠ 0 ∧ out = []) 
  | [], out, kind => by left; simp [wordsGo, toks]
  | c :: r, out, kind => by
    by_cases h0 : kind ≠ 0 ∧ out = []
    · exact .inr h0
    left
    rw [wordsGo]
    by_cases hb : c = 32
    · subst hb
      rw [if_pos rfl, if_neg (by rw [List.head?_cons, Option.map_some, cls_blank]; rintro ⟨h1, h2, _⟩; injection h2 with h2; omega), toks, if_pos rfl]
      rcases wordsGo_toks r out 0 with h | h
      · rw [h, if_neg (by simp)]
      · exact absurd rfl h.1
    · rw [if_neg hb]
      by_cases hk : cls c ≠ 0 ∧ cls c = kind
      · have hne : out ≠ [] := fun h => h0 ⟨by omega, h⟩
        rw [if_pos hk, if_pos ⟨by omega, by simp [hk.2], hne⟩]
        obtain ⟨o, t, rfl⟩ : ∃ o t, out = o ++ [t] := ⟨out.dropLast, out.getLast hne, (List.dropLast_concat_getLast hne).symm⟩
        have e1 : (o ++ [t]).set ((o ++ [t]).length - 1) ((o ++ [t]).getD ((o ++ [t]).length - 1) [] ++ [c]) = o ++ [t ++ [c]] := by
          simp [List.getD_eq_getElem?_getD]
        rw [e1]
        have e2 : (o ++ [t]).dropLast = o := by simp
        have e3 : (o ++ [t]).getLastD [] = t := by simp
        rw [e2, e3, toks, if_neg hb]
        rcases wordsGo_toks r (o ++ [t ++ [c]]) (cls c) with h | h
        · rw [h]
          have e4 : (o ++ [t ++ [c]]).dropLast = o := by simp
          have e5 : (o ++ [t ++ [c]]).getLastD [] = t ++ [c] := by simp
          rw [e4, e5, glue]
          by_cases hg : r.head?.map cls = some (cls c)
          · rw [if_pos ⟨hk.1, hg, by simp⟩, if_pos ⟨hk.1, hg⟩]
            simp
          · rw [if_neg (fun h => hg h.2.1), if_neg (fun h => hg h.2)]
            simp
        · exact absurd h.2 (by simp)
      · rw [if_neg hk, if_neg (by rw [List.head?_cons, Option.map_some]; rintro ⟨h1, h2, _⟩; injection h2 with h2; exact hk ⟨by omega, h2⟩), toks, if_neg hb]
        rcases wordsGo_toks r (out ++ [[c]]) (cls c) with h | h
        · rw [h, glue]
          by_cases hg : cls c ≠ 0 ∧ r.head?.map cls = some (cls c)
          · rw [if_pos ⟨hg.1, hg.2, by simp⟩, if_pos hg]
            simp
          · rw [if_neg (fun h => hg ⟨h.1, h.2.1⟩), if_neg hg]
            simp
        · exact absurd h.2 (by simp)
theorem words_toks (s : List UInt8) : wordsGo [] 0 s = toks s := by
  rcases wordsGo_toks s [] 0 with h | h
  · rw [h]; simp
  · exact absurd rfl h.1
theorem take_run (p : UInt8 → Bool) : ∀ l : List UInt8, ∀ x ∈ l.take (runLen p l), p x = true
  | [], x, h => by simp at h
  | c :: r, x, h => by
    rw [runLen] at h
    by_cases hp : p c = true
    · rw [if_pos hp, List.take_succ_cons] at h
      rcases List.mem_cons.1 h with rfl | h
      · exact hp
      · exact take_run p r x h
    · rw [if_neg hp] at h; simp at h
/-- A token that begins with a digit is of digits. -/
def okT (t : Tok) : Prop := (∃ c r, t = c :: r ∧ cls c = 2) → ∀ c ∈ t, cls c = 2
theorem toks_ok : ∀ (n : Nat) (s : List UInt8), s.length ≤ n → ∀ t ∈ toks s, okT t
  | _, [], _, t, h => by simp [toks] at h
  | 0, c :: r, hn, t, h => by simp at hn
  | n + 1, c :: r, hn, t, h => by
    have hr : r.length ≤ n := by simpa using hn
    by_cases hb : c = 32
    · rw [toks, if_pos hb] at h; exact toks_ok n r hr t h
    by_cases h0 : cls c = 0
    · rw [toks_one r h0 hb] at h
      rcases List.mem_cons.1 h with rfl | h
      · rintro ⟨c', r', e, h2⟩; injection e with e1; subst e1; omega
      · exact toks_ok n r hr t h
    · have hrun := toks_run (cls c) h0 r c rfl
      rw [hrun] at h
      rcases List.mem_cons.1 h with rfl | h
      · rintro ⟨c', r', e, h2⟩ x hx
        have hall := take_run (fun d => decide (cls d = cls c)) (c :: r)
        have h3 := hall c' (by rw [e]; simp)
        have h4 := hall x hx
        simp at h3 h4
        omega
      · refine toks_ok n _ ?_ t h
        rw [List.length_drop, runLen, if_pos (decide_eq_true rfl)]
        simp; omega
end Go.Proofs.YtfbmlbenffkpfaaGreatDoor
