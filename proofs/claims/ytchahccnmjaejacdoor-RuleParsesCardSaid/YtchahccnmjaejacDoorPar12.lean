/- Texts of rules, plain: lines by cuts; numbers and names of what was read stay small. -/
import Derived.Test.YtchahccnmjaejacDoorPar11
import Derived.Test.YtchahccnmjaejacDoorCut0
namespace Go.Proofs.YtchahccnmjaejacDoor
set_option linter.unusedVariables false

theorem linesOf_cut : ∀ l : List UInt8, l ≠ [] → linesOf l = cutL l 10 :: linesOf (cutR l 10)
  | [], h => absurd rfl h
  | c :: r, _ => by
    by_cases hc : c = 10
    · subst hc
      have h1 : cutL ((10 : UInt8) :: r) 10 = [] := by unfold cutL; rw [List.takeWhile_cons_of_neg (by simp)]
      have h2 : cutR ((10 : UInt8) :: r) 10 = r := by unfold cutR; rw [List.dropWhile_cons_of_neg (by simp)]; rfl
      rw [h1, h2, linesOf, if_pos rfl]
    · have hb : (c != 10) = true := by simpa using hc
      have h1 : cutL (c :: r) 10 = c :: cutL r 10 := by unfold cutL; rw [List.takeWhile_cons_of_pos (p := fun x => x != 10) hb]
      have h2 : cutR (c :: r) 10 = cutR r 10 := by unfold cutR; rw [List.dropWhile_cons_of_pos (p := fun x => x != 10) hb]
      rw [linesOf, if_neg hc, h1, h2]
      cases r with
      | nil => rfl
      | cons d r' => rw [linesOf_cut (d :: r') (by simp)]
theorem cutR_lt (l : List UInt8) (h : l ≠ []) : (cutR l 10).length < l.length := by
  unfold cutR
  have h1 : (l.dropWhile (· != 10)).length ≤ l.length := (List.dropWhile_suffix _).length_le
  rw [List.length_drop]
  cases l with
  | nil => exact absurd rfl h
  | cons a r => simp only [List.length_cons] at h1 ⊢; omega
theorem cutL_le (l : List UInt8) : (cutL l 10).length ≤ l.length := by
  unfold cutL; exact (List.takeWhile_prefix _).length_le
theorem toks_len : ∀ (n : Nat) (s : List UInt8), s.length ≤ n → ∀ t ∈ toks s, t.length ≤ s.length
  | _, [], _, t, h => by simp [toks] at h
  | 0, c :: r, hn, t, h => by simp at hn
  | n + 1, c :: r, hn, t, h => by
    have hr : r.length ≤ n := by simpa using hn
    by_cases hb : c = 32
    · rw [toks, if_pos hb] at h
      have := toks_len n r hr t h
      simp only [List.length_cons]; omega
    by_cases h0 : cls c = 0
    · rw [toks_one r h0 hb] at h
      rcases List.mem_cons.1 h with rfl | h
      · simp
      · have := toks_len n r hr t h
        simp only [List.length_cons]; omega
    · rw [toks_run (cls c) h0 r c rfl] at h
      rcases List.mem_cons.1 h with rfl | h
      · rw [List.length_take]; omega
      · have h2 : ((c :: r).drop (runLen (fun d => decide (cls d = cls c)) (c :: r))).length ≤ n := by
          rw [List.length_drop, runLen, if_pos (decide_eq_true rfl)]
          simp; omega
        have := toks_len n _ h2 t h
        rw [List.length_drop] at this
        omega
/-- What was read so far is small. -/
def OKt (t : PRule) : Prop := t.nm.length ≤ 4000 ∧ ∀ m ∈ t.ms, m.1.length ≤ 4000 ∧ (-9999999999 ≤ m.2.1 ∧ m.2.1 ≤ 9999999999) ∧ (-9999999999 ≤ m.2.2 ∧ m.2.2 ≤ 9999999999)
def okL (l : List Tok) : Prop := ∀ t ∈ l, okT t ∧ t.length ≤ 4000
theorem okL.tail {l : List Tok} (h : okL l) : okL l.tail := fun t ht => h t (List.mem_of_mem_tail ht)
theorem okL.hd {l : List Tok} (h : okL l) : (hd l).length ≤ 4000 := by
  cases l with
  | nil => simp [Go.Proofs.YtchahccnmjaejacDoor.hd]
  | cons t r => exact (h t (by simp)).2
theorem okL_toks {s : List UInt8} (h : s.length ≤ 4000) : okL (toks s) := fun t ht => ⟨toks_ok _ s (Nat.le_refl _) t ht, Nat.le_trans (toks_len _ s (Nat.le_refl _) t ht) h⟩
theorem natP_rest {l : List Tok} {p : Int × List Tok} (h : natP l = .good p) : p.2 = l.tail := by
  rcases natP_cases l with ⟨c, e⟩ | ⟨n, e⟩
  · rw [e] at h; cases h
  · rw [e] at h; injection h with h; subst h; rfl
theorem signP_rest {l : List Tok} {p : Int × List Tok} (h : signP l = .good p) : p.2 = l.tail ∨ p.2 = l.tail.tail := by
  unfold signP at h
  split at h
  · rcases natP_cases l.tail with ⟨c, e⟩ | ⟨n, e⟩
    · rw [e] at h; cases h
    · rw [e] at h; injection h with h; subst h; exact .inr rfl
  · exact .inl (natP_rest h)
theorem signP_ok {l : List Tok} {p : Int × List Tok} (h : signP l = .good p) (ho : okL l) : (-9999999999 ≤ p.1 ∧ p.1 ≤ 9999999999) ∧ okL p.2 := by
  refine ⟨signP_in h fun t ht => (ho t ht).1, ?_⟩
  rcases signP_rest h with e | e
  · rw [e]; exact ho.tail
  · rw [e]; exact ho.tail.tail
theorem monP_ok {l : List Tok} {p : PMon × List Tok} (h : monP l = .good p) (ho : okL l) : p.1.1.length ≤ 4000 ∧ (-9999999999 ≤ p.1.2.1 ∧ p.1.2.1 ≤ 9999999999) ∧ (-9999999999 ≤ p.1.2.2 ∧ p.1.2.2 ≤ 9999999999) := by
  unfold monP at h
  rcases wordP_cases l with ew | ew
  · rw [ew] at h; cases h
  rw [ew] at h
  replace h : ((signP l.tail).bind fun q => if hd q.2 = [] then .good ((hd l, q.1, q.1), q.2) else (signP q.2).bind fun s => .good ((hd l, q.1, s.1), s.2) : Res (PMon × List Tok)) = .good p := h
  rcases signP_cases l.tail with ⟨c, es⟩ | ⟨q, es⟩
  · rw [es] at h; cases h
  have h1 := signP_ok es ho.tail
  rw [es] at h
  replace h : (if hd q.2 = [] then .good ((hd l, q.1, q.1), q.2) else (signP q.2).bind fun s => .good ((hd l, q.1, s.1), s.2) : Res (PMon × List Tok)) = .good p := h
  by_cases he : hd q.2 = []
  · rw [if_pos he] at h
    injection h with h; subst h
    exact ⟨ho.hd, h1.1, h1.1⟩
  · rw [if_neg he] at h
    rcases signP_cases q.2 with ⟨c, es2⟩ | ⟨s, es2⟩
    · rw [es2] at h; cases h
    have h2 := signP_ok es2 h1.2
    rw [es2] at h
    injection h with h; subst h
    exact ⟨ho.hd, h1.1, h2.1⟩
theorem restP_ok {f i : Nat} {l : List Tok} {t : PRule} {p : PRule × List Tok} (h : restP f i l t = .good p) (ho : okL l) (ht : OKt t) : OKt p.1 ∧ (i ≤ 3 → p.1.ms = t.ms) ∧ p.1.ms.length ≤ t.ms.length + 1 := by
  match i with
  | 0 =>
    rcases wordP_cases l with ew | ew
    · rw [restP, ew] at h; cases h
    · rw [restP, ew] at h; injection h with h; subst h
      exact ⟨⟨ho.hd, ht.2⟩, fun _ => rfl, by simp⟩
  | 1 =>
    rcases signP_cases l with ⟨c, ew⟩ | ⟨q, ew⟩
    · rw [restP, ew] at h; cases h
    · rw [restP, ew] at h; injection h with h; subst h
      exact ⟨⟨ht.1, ht.2⟩, fun _ => rfl, by simp⟩
  | 2 =>
    rcases signP_cases l with ⟨c, ew⟩ | ⟨q, ew⟩
    · rw [restP, ew] at h; cases h
    · rw [restP, ew] at h; injection h with h; subst h
      exact ⟨⟨ht.1, ht.2⟩, fun _ => rfl, by simp⟩
  | 3 =>
    rw [restP] at h
    cases he : expP f 0 l 0 with
    | stuck => rw [he] at h; cases h
    | bad c => rw [he] at h; cases h
    | good q => rw [he] at h; injection h with h; subst h; exact ⟨⟨ht.1, ht.2⟩, fun _ => rfl, by simp⟩
  | j + 4 =>
    rw [restP_4 (by omega)] at h
    cases he : monP l with
    | stuck => rw [he] at h; cases h
    | bad c => rw [he] at h; cases h
    | good q =>
      rw [he] at h; injection h with h; subst h
      refine ⟨⟨ht.1, fun m hm => ?_⟩, fun h => by omega, by simp⟩
      rcases List.mem_append.1 hm with hm | hm
      · exact ht.2 m hm
      · rw [List.mem_singleton] at hm; subst hm; exact monP_ok he ho
theorem rowP_ok {f i : Nat} {l : List Tok} {t t' : PRule} (h : rowP f i l t = .good t') (ho : okL l) (ht : OKt t) : OKt t' ∧ (i ≤ 3 → t'.ms = t.ms) ∧ t'.ms.length ≤ t.ms.length + 1 := by
  unfold rowP needP at h
  by_cases hk : hd l = kOf i
  · rw [if_pos hk] at h
    replace h : ((restP f i l.tail t).bind fun p => if hd p.2 = [] then .good p.1 else .bad 4 : Res PRule) = .good t' := h
    cases he : restP f i l.tail t with
    | stuck => rw [he] at h; cases h
    | bad c => rw [he] at h; cases h
    | good p =>
      rw [he] at h
      replace h : (if hd p.2 = [] then .good p.1 else .bad 4 : Res PRule) = .good t' := h
      by_cases h2 : hd p.2 = []
      · rw [if_pos h2] at h; injection h with h; subst h; exact restP_ok he ho.tail ht
      · rw [if_neg h2] at h; cases h
  · rw [if_neg hk] at h; cases h
theorem row3_stuck {f : Nat} {l : List Tok} {t : PRule} (h : rowP f 3 l t ≠ .stuck) : hd l = [108, 101, 97, 112] → expP f 0 l.tail 0 ≠ .stuck := by
  intro hk he
  refine h ?_
  unfold rowP needP
  rw [if_pos (show hd l = kOf 3 from hk)]
  show (restP f 3 l.tail t).bind _ = _
  rw [restP, he]; rfl
end Go.Proofs.YtchahccnmjaejacDoor
