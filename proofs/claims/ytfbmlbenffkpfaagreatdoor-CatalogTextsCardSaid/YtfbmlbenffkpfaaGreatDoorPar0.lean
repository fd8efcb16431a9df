/- Texts of expressions, plain: the tokens of a line, the two ways to read an expression, and that they agree. -/
import Derived.Test.YtfbmlbenffkpfaaGreatDoorTree0
namespace Go.Proofs.YtfbmlbenffkpfaaGreatDoor
set_option linter.unusedVariables false

abbrev Tok := List UInt8
def cls (c : UInt8) : Nat := if 97 ≤ c.toNat ∧ c.toNat ≤ 122 then 1 else if 48 ≤ c.toNat ∧ c.toNat ≤ 57 then 2 else 0
/-- A byte ahead of the tokens of the rest. -/
def glue (c : UInt8) (r : List UInt8) (l : List Tok) : List Tok := if cls c ≠ 0 ∧ r.head?.map cls = some (cls c) then (c :: l.headD []) :: l.tail else [c] :: l
/-- The tokens of a line: letters, digits, or single bytes; blanks are left out. -/
def toks : List UInt8 → List Tok
  | [] => []
  | c :: r => if c = 32 then toks r else glue c r (toks r)

inductive Res (α : Type) : Type
  | stuck : Res α
  | bad (e : Int) : Res α
  | good (x : α) : Res α
def Res.bind {α β : Type} : Res α → (α → Res β) → Res β
  | .stuck, _ => .stuck
  | .bad e, _ => .bad e
  | .good x, g => g x
abbrev PRes := Res (Tree × List Tok)

def hd (l : List Tok) : Tok := l.headD []
def tNot : Tok := [110, 111, 116]
/-- The operators: kind and level. -/
def opOf (t : Tok) : Option (Int × Nat) :=
  if t = [43] then some (4, 4) else if t = [45] then some (5, 4) else if t = [42] then some (6, 5) else if t = [47] then some (7, 5) else if t = [37] then some (8, 5)
  else if t = [60] then some (9, 3) else if t = [61] then some (10, 3) else if t = [97, 110, 100] then some (12, 1) else if t = [111, 114] then some (13, 0) else none
def opAt (lvl : Nat) (t : Tok) : Option Int := match opOf t with
  | some (k, lv) => if lv = lvl then some k else none
  | none => none
def isDig (t : Tok) : Bool := match t with
  | [] => false
  | c :: _ => decide (48 ≤ c.toNat ∧ c.toNat ≤ 57)
def numOf (t : Tok) : Int := t.foldl (fun n c => 10 * n + ((c.toNat : Int) - 48)) 0
def natP (l : List Tok) : Res (Int × List Tok) := if isDig (hd l) = false then .bad 4 else if 10 < (hd l).length then .bad 2 else .good (numOf (hd l), l.tail)

mutual
/-- The reading by levels. -/
def expP : Nat → Nat → List Tok → Nat → PRes
  | 0, _, _, _ => .stuck
  | f + 1, lvl, l, o =>
    if lvl = 2 then (if hd l = tNot then (expP f 2 l.tail o).bind fun p => .good (.node 11 0 [p.1], p.2) else expP f 3 l o)
    else if lvl = 6 then (if hd l = [45] then (expP f 6 l.tail o).bind fun p => .good (.node 3 0 [p.1], p.2) else leafP f l o)
    else (expP f (lvl + 1) l o).bind fun p => loopP f lvl p.1 p.2 o
def loopP : Nat → Nat → Tree → List Tok → Nat → PRes
  | 0, _, _, _, _ => .stuck
  | f + 1, lvl, x, l, o => match opAt lvl (hd l) with
    | none => .good (x, l)
    | some k => (expP f (lvl + 1) l.tail o).bind fun p => if lvl = 3 then .good (.node k 0 [x, p.1], p.2) else loopP f lvl (.node k 0 [x, p.1]) p.2 o
def leafP : Nat → List Tok → Nat → PRes
  | 0, _, _ => .stuck
  | f + 1, l, o =>
    if hd l = [121] then .good (.node 2 0 [], l.tail)
    else if hd l = [40] then (if 12 < o + 1 then .bad 2 else (expP f 0 l.tail (o + 1)).bind fun p => if hd p.2 = [41] then .good (p.1, p.2.tail) else .bad 4)
    else (natP l).bind fun p => .good (.node 1 p.1 [], p.2)
end
mutual
/-- The reading by climbing. -/
def expR : Nat → Nat → List Tok → Nat → PRes
  | 0, _, _, _ => .stuck
  | f + 1, least, l, o =>
    if hd l = tNot ∧ least ≤ 3 then (expR f 3 l.tail o).bind fun p => loopR f least 3 (.node 11 0 [p.1]) p.2 o
    else if hd l = [45] then (expR f 7 l.tail o).bind fun p => loopR f least 7 (.node 3 0 [p.1]) p.2 o
    else if hd l = [121] then loopR f least 9 (.node 2 0 []) l.tail o
    else if hd l = [40] then (if 12 < o + 1 then .bad 2 else (expR f 1 l.tail (o + 1)).bind fun p => if hd p.2 = [41] then loopR f least 9 p.1 p.2.tail o else .bad 4)
    else (natP l).bind fun p => loopR f least 9 (.node 1 p.1 []) p.2 o
def loopR : Nat → Nat → Nat → Tree → List Tok → Nat → PRes
  | 0, _, _, _, _, _ => .stuck
  | f + 1, least, top, x, l, o => match opOf (hd l) with
    | none => .good (x, l)
    | some (k, lv) => if lv + 1 < least ∨ top < lv + 1 ∨ (lv + 1 = 4 ∧ top = 4) then .good (x, l)
      else (expR f (lv + 2) l.tail o).bind fun p => loopR f least (lv + 1) (.node k 0 [x, p.1]) p.2 o
end

def EP (lvl : Nat) (l : List Tok) (o : Nat) (R : PRes) : Prop := ∃ g, ∀ f, g ≤ f → expP f lvl l o = R
def LP (lvl : Nat) (x : Tree) (l : List Tok) (o : Nat) (R : PRes) : Prop := ∃ g, ∀ f, g ≤ f → loopP f lvl x l o = R
def ER (least : Nat) (l : List Tok) (o : Nat) (R : PRes) : Prop := ∃ g, ∀ f, g ≤ f → expR f least l o = R
def LR (least top : Nat) (x : Tree) (l : List Tok) (o : Nat) (R : PRes) : Prop := ∃ g, ∀ f, g ≤ f → loopR f least top x l o = R

theorem opOf_levels {t : Tok} {k : Int} {lv : Nat} (h : opOf t = some (k, lv)) : lv = 0 ∨ lv = 1 ∨ lv = 3 ∨ lv = 4 ∨ lv = 5 := by
  unfold opOf at h
  repeat' split at h
  all_goals first | (cases h; done) | (injection h with h; injection h with h1 h2; omega)
theorem opOf_ne {t : Tok} {q : Int × Nat} (h : opOf t = some q) : t ≠ [] := by rintro rfl; revert h; decide +revert
theorem opAt_of {lvl : Nat} {t : Tok} {k : Int} (h : opOf t = some (k, lvl)) : opAt lvl t = some k := by unfold opAt; rw [h]; simp
theorem opAt_none {lvl : Nat} {t : Tok} (h : ∀ k, opOf t ≠ some (k, lvl)) : opAt lvl t = none := by
  unfold opAt
  cases hq : opOf t with
  | none => rfl
  | some q =>
    obtain ⟨k, lv⟩ := q
    by_cases he : lv = lvl
    · subst he; exact absurd hq (h k)
    · simp [he]
theorem tail_lt {l : List Tok} (h : hd l ≠ []) : l.tail.length < l.length := by
  cases l with
  | nil => exact absurd rfl h
  | cons t r => simp

/-- One step of the levels: the loop of a level, or nothing at the levels of 'not' and '-'. -/
def SP (lvl : Nat) (x : Tree) (l : List Tok) (o : Nat) (R : PRes) : Prop := if lvl = 2 then R = .good (x, l) else LP lvl x l o R
/-- From a complete expression of level v down to level b. -/
inductive CP (b o : Nat) : Nat → Tree → List Tok → PRes → Prop
  | done (x : Tree) (l : List Tok) : CP b o b x l (.good (x, l))
  | fall (v : Nat) (x : Tree) (l : List Tok) (e : Int) : b ≤ v → SP v x l o (.bad e) → CP b o (v + 1) x l (.bad e)
  | step (v : Nat) (x : Tree) (l : List Tok) (p : Tree × List Tok) (R : PRes) : b ≤ v → SP v x l o (.good p) → CP b o v p.1 p.2 R → CP b o (v + 1) x l R
theorem sp_skip {v : Nat} {x : Tree} {l : List Tok} {o : Nat} (h : ∀ k, opOf (hd l) ≠ some (k, v)) : SP v x l o (.good (x, l)) := by
  unfold SP
  split
  · rfl
  · exact ⟨1, fun f hf => by obtain ⟨g, rfl⟩ : ∃ g, f = g + 1 := ⟨f - 1, by omega⟩; rw [loopP, opAt_none h]⟩
theorem cp_down {b o v : Nat} {x : Tree} {l : List Tok} {R : PRes} (w : Nat) (h : CP b o v x l R) (hb : b ≤ v) (hw : v ≤ w) (hs : ∀ k lv, opOf (hd l) = some (k, lv) → lv < v ∨ w ≤ lv) : CP b o w x l R := by
  obtain ⟨d, rfl⟩ : ∃ d, w = v + d := ⟨w - v, by omega⟩
  induction d with
  | zero => exact h
  | succ d ih => exact .step (v + d) x l (x, l) R (by omega) (sp_skip fun k hk => by have := hs k _ hk; omega) (ih (by omega) fun k lv hk => by have := hs k lv hk; omega)
theorem ep_bad {b v : Nat} {l : List Tok} {o : Nat} {e : Int} (h : EP v l o (.bad e)) (hb : b ≤ v) (hv : v ≤ 6) (hn : b ≤ 2 → 2 < v → hd l ≠ tNot) : EP b l o (.bad e) := by
  obtain ⟨d, rfl⟩ : ∃ d, v = b + d := ⟨v - b, by omega⟩
  clear hb
  induction d with
  | zero => exact h
  | succ d ih =>
    refine ih ?_ (by omega) (fun h1 h2 => hn h1 (by omega))
    obtain ⟨g, hg⟩ := h
    refine ⟨g + 1, fun f hf => ?_⟩
    obtain ⟨f', rfl⟩ : ∃ f', f = f' + 1 := ⟨f - 1, by omega⟩
    have h1 := hg f' (by omega)
    rw [show b + (d + 1) = b + d + 1 by omega] at h1
    rw [expP]
    by_cases h2 : b + d = 2
    · rw [if_pos h2, if_neg (hn (by omega) (by omega))]
      rw [h2] at h1; exact h1
    · rw [if_neg h2, if_neg (by omega), h1]; rfl
theorem ep_of_cp {b v : Nat} {l : List Tok} {o : Nat} {x : Tree} {l' : List Tok} {R : PRes} (c : CP b o v x l' R) (hv : v ≤ 6) (h : EP v l o (.good (x, l'))) (hn : b ≤ 2 → 2 < v → hd l ≠ tNot) : EP b l o R := by
  induction c with
  | done x l' => exact h
  | fall v x l' e hb hs =>
    have hv' : EP v l o (.bad e) := by
      obtain ⟨g, hg⟩ := h
      unfold SP at hs
      by_cases h2 : v = 2
      · rw [if_pos h2] at hs; cases hs
      · rw [if_neg h2] at hs
        obtain ⟨g2, hg2⟩ := hs
        refine ⟨g + g2 + 1, fun f hf => ?_⟩
        obtain ⟨f', rfl⟩ : ∃ f', f = f' + 1 := ⟨f - 1, by omega⟩
        rw [expP, if_neg h2, if_neg (by omega), hg f' (by omega)]
        exact hg2 f' (by omega)
    exact ep_bad hv' hb (by omega) (fun h1 h2 => hn h1 (by omega))
  | step v x l' p R hb hs _ ih =>
    refine ih (by omega) ?_ (fun h1 h2 => hn h1 (by omega))
    obtain ⟨g, hg⟩ := h
    unfold SP at hs
    by_cases h2 : v = 2
    · rw [if_pos h2] at hs
      injection hs with hs
      subst hs h2
      refine ⟨g + 1, fun f hf => ?_⟩
      obtain ⟨f', rfl⟩ : ∃ f', f = f' + 1 := ⟨f - 1, by omega⟩
      rw [expP, if_pos rfl, if_neg (hn hb (by omega)), hg f' (by omega)]
    · rw [if_neg h2] at hs
      obtain ⟨g2, hg2⟩ := hs
      refine ⟨g + g2 + 1, fun f hf => ?_⟩
      obtain ⟨f', rfl⟩ : ∃ f', f = f' + 1 := ⟨f - 1, by omega⟩
      rw [expP, if_neg h2, if_neg (by omega), hg f' (by omega)]
      exact hg2 f' (by omega)

/-- The two readings agree on lists that are shorter than n. -/
def Agree (n : Nat) : Prop := ∀ (l : List Tok), l.length < n → ∀ (o lvl : Nat), lvl ≤ 6 → ∃ R, R ≠ .stuck ∧ EP lvl l o R ∧ ER (lvl + 1) l o R ∧ ∀ p, R = .good p → p.2.length < l.length
def vOf (top : Nat) : Nat := if top = 4 then 3 else if top = 3 then 2 else min top 6
theorem loop_agree {n : Nat} (A : Agree n) (o b : Nat) (hb : b ≤ 6) : ∀ (m : Nat) (l : List Tok), l.length ≤ m → l.length ≤ n → ∀ (x : Tree) (top : Nat), b ≤ vOf top → 1 ≤ top → ∃ R, R ≠ .stuck ∧ CP b o (vOf top) x l R ∧ LR (b + 1) top x l o R ∧ ∀ p, R = .good p → p.2.length ≤ l.length := by
  intro m
  induction m with
  | zero =>
    intro l hl hn x top hv h1
    have : l = [] := List.length_eq_zero_iff.1 (by omega)
    subst this
    refine ⟨.good (x, []), by simp, cp_down (vOf top) (.done x []) (Nat.le_refl _) hv (fun k lv hk => absurd rfl (opOf_ne hk)), ⟨1, fun f hf => ?_⟩, fun p hp => ?_⟩
    · obtain ⟨g, rfl⟩ : ∃ g, f = g + 1 := ⟨f - 1, by omega⟩
      rw [loopR]; rfl
    · injection hp with hp; subst hp; simp
  | succ m ih =>
    intro l hl hn x top hv h1
    have skip : (∀ k lv, opOf (hd l) = some (k, lv) → lv < b ∨ vOf top ≤ lv) → (∀ k lv, opOf (hd l) = some (k, lv) → lv + 1 < b + 1 ∨ top < lv + 1 ∨ (lv + 1 = 4 ∧ top = 4)) →
        ∃ R, R ≠ .stuck ∧ CP b o (vOf top) x l R ∧ LR (b + 1) top x l o R ∧ ∀ p, R = .good p → p.2.length ≤ l.length := by
      intro h2 h3
      refine ⟨.good (x, l), by simp, cp_down (vOf top) (.done x l) (Nat.le_refl _) hv h2, ⟨1, fun f hf => ?_⟩, fun p hp => ?_⟩
      · obtain ⟨g, rfl⟩ : ∃ g, f = g + 1 := ⟨f - 1, by omega⟩
        rw [loopR]
        cases hq : opOf (hd l) with
        | none => rfl
        | some q => obtain ⟨k, lv⟩ := q; simp only; rw [if_pos (h3 k lv hq)]
      · injection hp with hp; subst hp; exact Nat.le_refl _
    cases hq : opOf (hd l) with
    | none => exact skip (fun k lv hk => by rw [hq] at hk; cases hk) (fun k lv hk => by rw [hq] at hk; cases hk)
    | some q =>
      obtain ⟨k, lv⟩ := q
      have hlv := opOf_levels hq
      by_cases ha : lv + 1 < b + 1 ∨ top < lv + 1 ∨ (lv + 1 = 4 ∧ top = 4)
      · refine skip (fun k' lv' hk => ?_) (fun k' lv' hk => ?_)
        · rw [hq] at hk; injection hk with hk; injection hk with e1 e2; subst e2
          unfold vOf at hv ⊢
          split <;> (try split) <;> omega
        · rw [hq] at hk; injection hk with hk; injection hk with e1 e2; subst e2; exact ha
      · have hlt := tail_lt (opOf_ne hq)
        have hbv : b ≤ lv := by omega
        have hvt : lv + 1 ≤ vOf top := by
          unfold vOf at hv ⊢
          split
          · omega
          · split
            · omega
            · omega
        obtain ⟨R0, r0, e0, er0, s0⟩ := A l.tail (by omega) o (lv + 1) (by omega)
        have outer : ∀ R, CP b o (lv + 1) x l R → CP b o (vOf top) x l R := fun R h => cp_down (vOf top) h (by omega) hvt (fun k' lv' hk => by rw [hq] at hk; injection hk with hk; injection hk with e1 e2; omega)
        have lrun : ∀ f, loopR (f + 1) (b + 1) top x l o = (expR f (lv + 2) l.tail o).bind fun p => loopR f (b + 1) (lv + 1) (.node k 0 [x, p.1]) p.2 o := fun f => by rw [loopR, hq]; simp only; rw [if_neg ha]
        have prun : ∀ f, loopP (f + 1) lv x l o = (expP f (lv + 1) l.tail o).bind fun p => if lv = 3 then .good (.node k 0 [x, p.1], p.2) else loopP f lv (.node k 0 [x, p.1]) p.2 o := fun f => by rw [loopP, opAt_of hq]
        obtain ⟨g1, hg1⟩ := e0
        obtain ⟨g2, hg2⟩ := er0
        cases R0 with
        | stuck => exact absurd rfl r0
        | bad e =>
          refine ⟨.bad e, by simp, outer _ (.fall lv x l e hbv ?_), ⟨g2 + 1, fun f hf => ?_⟩, fun p hp => by cases hp⟩
          · unfold SP
            rw [if_neg (by omega)]
            refine ⟨g1 + 1, fun f hf => ?_⟩
            obtain ⟨f', rfl⟩ : ∃ f', f = f' + 1 := ⟨f - 1, by omega⟩
            rw [prun, hg1 f' (by omega)]; rfl
          · obtain ⟨f', rfl⟩ : ∃ f', f = f' + 1 := ⟨f - 1, by omega⟩
            rw [lrun, hg2 f' (by omega)]; rfl
        | good y =>
          obtain ⟨y, l'⟩ := y
          have hl' := s0 _ rfl
          simp only at hl'
          have hv2 : b ≤ vOf (lv + 1) := by
            unfold vOf
            split
            · omega
            · split <;> omega
          obtain ⟨R, r1, c1, lr1, s1⟩ := ih l' (by omega) (by omega) (.node k 0 [x, y]) (lv + 1) hv2 (by omega)
          obtain ⟨g3, hg3⟩ := lr1
          refine ⟨R, r1, outer _ ?_, ⟨g2 + g3 + 1, fun f hf => ?_⟩, fun p hp => by have := s1 p hp; omega⟩
          · by_cases h3 : lv = 3
            · subst h3
              refine .step 3 x l (.node k 0 [x, y], l') R hbv ?_ c1
              unfold SP
              rw [if_neg (by omega)]
              refine ⟨g1 + 1, fun f hf => ?_⟩
              obtain ⟨f', rfl⟩ : ∃ f', f = f' + 1 := ⟨f - 1, by omega⟩
              rw [prun, hg1 f' (by omega)]; rfl
            · have hvl : vOf (lv + 1) = lv + 1 := by
                unfold vOf
                rw [if_neg (by omega), if_neg (by omega)]
                omega
              rw [hvl] at c1
              have back : ∀ R', SP lv (.node k 0 [x, y]) l' o R' → SP lv x l o R' := by
                intro R' hs
                unfold SP at hs ⊢
                rw [if_neg (by omega)] at hs ⊢
                obtain ⟨g4, hg4⟩ := hs
                refine ⟨g1 + g4 + 1, fun f hf => ?_⟩
                obtain ⟨f', rfl⟩ : ∃ f', f = f' + 1 := ⟨f - 1, by omega⟩
                rw [prun, hg1 f' (by omega)]
                show (if lv = 3 then _ else _) = _
                rw [if_neg h3]
                exact hg4 f' (by omega)
              cases c1 with
              | done => omega
              | fall _ _ _ e hb' hs => exact .fall lv x l e hb' (back _ hs)
              | step _ _ _ p _ hb' hs hc => exact .step lv x l p R hb' (back _ hs) hc
          · obtain ⟨f', rfl⟩ : ∃ f', f = f' + 1 := ⟨f - 1, by omega⟩
            rw [lrun, hg2 f' (by omega)]
            exact hg3 f' (by omega)
theorem agree : ∀ n, Agree n := by
  intro n
  induction n with
  | zero => intro l hl; omega
  | succ n A =>
    intro l hl o lvl hlv
    have succ_ : ∀ f g : Nat, g + 1 ≤ f → ∃ f', f = f' + 1 ∧ g ≤ f' := fun f g h => ⟨f - 1, by omega, by omega⟩
    by_cases c1 : hd l = tNot ∧ lvl + 1 ≤ 3
    · have hne : hd l ≠ [] := by rw [c1.1]; decide
      have ht := tail_lt hne
      obtain ⟨R0, r0, ⟨g1, hg1⟩, ⟨g2, hg2⟩, s0⟩ := A l.tail (by omega) o 2 (by omega)
      have er : ∀ f, expR (f + 1) (lvl + 1) l o = (expR f 3 l.tail o).bind fun p => loopR f (lvl + 1) 3 (.node 11 0 [p.1]) p.2 o := fun f => by rw [expR, if_pos c1]
      have ep : ∀ f, expP (f + 1) 2 l o = (expP f 2 l.tail o).bind fun p => .good (.node 11 0 [p.1], p.2) := fun f => by rw [expP, if_pos rfl, if_pos c1.1]
      cases R0 with
      | stuck => exact absurd rfl r0
      | bad e =>
        refine ⟨.bad e, by simp, ep_bad (v := 2) ⟨g1 + 1, fun f hf => ?_⟩ (by omega) (by omega) (fun _ h => by omega), ⟨g2 + 1, fun f hf => ?_⟩, fun p hp => by cases hp⟩
        · obtain ⟨f', rfl, hf'⟩ := succ_ f g1 hf
          rw [ep, hg1 f' hf']; rfl
        · obtain ⟨f', rfl, hf'⟩ := succ_ f g2 hf
          rw [er, hg2 f' hf']; rfl
      | good y =>
        obtain ⟨y, l'⟩ := y
        have hl' := s0 _ rfl
        simp only at hl'
        obtain ⟨R, r1, k1, ⟨g3, hg3⟩, s1⟩ := loop_agree A o lvl hlv l'.length l' (Nat.le_refl _) (by omega) (.node 11 0 [y]) 3 (show lvl ≤ 2 by omega) (by omega)
        refine ⟨R, r1, ep_of_cp k1 (by decide) ⟨g1 + 1, fun f hf => ?_⟩ (fun _ h => absurd h (by decide)), ⟨g2 + g3 + 1, fun f hf => ?_⟩, fun p hp => by have := s1 p hp; omega⟩
        · obtain ⟨f', rfl, hf'⟩ := succ_ f g1 hf
          show expP (f' + 1) 2 l o = _
          rw [ep, hg1 f' hf']; rfl
        · obtain ⟨f', rfl, hf'⟩ := succ_ f (g2 + g3) hf
          rw [er, hg2 f' (by omega)]
          exact hg3 f' (by omega)
    · have hn : lvl ≤ 2 → 2 < 6 → hd l ≠ tNot := fun h _ h2 => c1 ⟨h2, by omega⟩
      have v9 : vOf 9 = 6 := by decide
      have v7 : vOf 7 = 6 := by decide
      by_cases c2 : hd l = [45]
      · have hne : hd l ≠ [] := by rw [c2]; decide
        have ht := tail_lt hne
        obtain ⟨R0, r0, ⟨g1, hg1⟩, ⟨g2, hg2⟩, s0⟩ := A l.tail (by omega) o 6 (by omega)
        have er : ∀ f, expR (f + 1) (lvl + 1) l o = (expR f 7 l.tail o).bind fun p => loopR f (lvl + 1) 7 (.node 3 0 [p.1]) p.2 o := fun f => by rw [expR, if_neg c1, if_pos c2]
        have ep : ∀ f, expP (f + 1) 6 l o = (expP f 6 l.tail o).bind fun p => .good (.node 3 0 [p.1], p.2) := fun f => by rw [expP, if_neg (by omega), if_pos rfl, if_pos c2]
        cases R0 with
        | stuck => exact absurd rfl r0
        | bad e =>
          refine ⟨.bad e, by simp, ep_bad (v := 6) ⟨g1 + 1, fun f hf => ?_⟩ (by omega) (by omega) hn, ⟨g2 + 1, fun f hf => ?_⟩, fun p hp => by cases hp⟩
          · obtain ⟨f', rfl, hf'⟩ := succ_ f g1 hf
            rw [ep, hg1 f' hf']; rfl
          · obtain ⟨f', rfl, hf'⟩ := succ_ f g2 hf
            rw [er, hg2 f' hf']; rfl
        | good y =>
          obtain ⟨y, l'⟩ := y
          have hl' := s0 _ rfl
          simp only at hl'
          obtain ⟨R, r1, k1, ⟨g3, hg3⟩, s1⟩ := loop_agree A o lvl hlv l'.length l' (Nat.le_refl _) (by omega) (.node 3 0 [y]) 7 (by rw [v7]; omega) (by omega)
          rw [v7] at k1
          refine ⟨R, r1, ep_of_cp k1 (by omega) ⟨g1 + 1, fun f hf => ?_⟩ hn, ⟨g2 + g3 + 1, fun f hf => ?_⟩, fun p hp => by have := s1 p hp; omega⟩
          · obtain ⟨f', rfl, hf'⟩ := succ_ f g1 hf
            rw [ep, hg1 f' hf']; rfl
          · obtain ⟨f', rfl, hf'⟩ := succ_ f (g2 + g3) hf
            rw [er, hg2 f' (by omega)]
            exact hg3 f' (by omega)
      · have ep : ∀ f, expP (f + 1) 6 l o = leafP f l o := fun f => by rw [expP, if_neg (by omega), if_pos rfl, if_neg c2]
        -- a leaf that is bad
        have bad_ : ∀ (e : Int) (g1 g2 : Nat), (∀ f, g1 ≤ f → leafP f l o = .bad e) → (∀ f, g2 ≤ f → expR f (lvl + 1) l o = .bad e) → ∃ R, R ≠ .stuck ∧ EP lvl l o R ∧ ER (lvl + 1) l o R ∧ ∀ p, R = .good p → p.2.length < l.length := by
          intro e g1 g2 h1 h2
          refine ⟨.bad e, by simp, ep_bad (v := 6) ⟨g1 + 1, fun f hf => ?_⟩ (by omega) (by omega) hn, ⟨g2, h2⟩, fun p hp => by cases hp⟩
          obtain ⟨f', rfl, hf'⟩ := succ_ f g1 hf
          rw [ep, h1 f' hf']
        -- a leaf that is good
        have good_ : ∀ (x : Tree) (l' : List Tok) (g1 g2 : Nat), l'.length < l.length → (∀ f, g1 ≤ f → leafP f l o = .good (x, l')) → (∀ f, g2 ≤ f → expR (f + 1) (lvl + 1) l o = loopR f (lvl + 1) 9 x l' o) → ∃ R, R ≠ .stuck ∧ EP lvl l o R ∧ ER (lvl + 1) l o R ∧ ∀ p, R = .good p → p.2.length < l.length := by
          intro x l' g1 g2 hl' h1 h2
          obtain ⟨R, r1, k1, ⟨g3, hg3⟩, s1⟩ := loop_agree A o lvl hlv l'.length l' (Nat.le_refl _) (by omega) x 9 (by rw [v9]; omega) (by omega)
          rw [v9] at k1
          refine ⟨R, r1, ep_of_cp k1 (by omega) ⟨g1 + 1, fun f hf => ?_⟩ hn, ⟨g2 + g3 + 1, fun f hf => ?_⟩, fun p hp => by have := s1 p hp; omega⟩
          · obtain ⟨f', rfl, hf'⟩ := succ_ f g1 hf
            rw [ep, h1 f' hf']
          · obtain ⟨f', rfl, hf'⟩ := succ_ f (g2 + g3) hf
            rw [h2 f' (by omega)]
            exact hg3 f' (by omega)
        by_cases c3 : hd l = [121]
        · refine good_ (.node 2 0 []) l.tail 1 0 (tail_lt (by rw [c3]; decide)) (fun f hf => ?_) (fun f _ => by rw [expR, if_neg c1, if_neg c2, if_pos c3])
          obtain ⟨f', rfl, _⟩ := succ_ f 0 hf
          rw [leafP, if_pos c3]
        by_cases c4 : hd l = [40]
        · by_cases c5 : 12 < o + 1
          · refine bad_ 2 1 1 (fun f hf => ?_) (fun f hf => ?_)
            · obtain ⟨f', rfl, _⟩ := succ_ f 0 hf
              rw [leafP, if_neg c3, if_pos c4, if_pos c5]
            · obtain ⟨f', rfl, _⟩ := succ_ f 0 hf
              rw [expR, if_neg c1, if_neg c2, if_neg c3, if_pos c4, if_pos c5]
          · have ht := tail_lt (l := l) (by rw [c4]; decide)
            obtain ⟨R0, r0, ⟨g1, hg1⟩, ⟨g2, hg2⟩, s0⟩ := A l.tail (by omega) (o + 1) 0 (by omega)
            have el : ∀ f, leafP (f + 1) l o = (expP f 0 l.tail (o + 1)).bind fun p => if hd p.2 = [41] then .good (p.1, p.2.tail) else .bad 4 := fun f => by rw [leafP, if_neg c3, if_pos c4, if_neg c5]
            have er : ∀ f, expR (f + 1) (lvl + 1) l o = (expR f 1 l.tail (o + 1)).bind fun p => if hd p.2 = [41] then loopR f (lvl + 1) 9 p.1 p.2.tail o else .bad 4 := fun f => by rw [expR, if_neg c1, if_neg c2, if_neg c3, if_pos c4, if_neg c5]
            cases R0 with
            | stuck => exact absurd rfl r0
            | bad e =>
              refine bad_ e (g1 + 1) (g2 + 1) (fun f hf => ?_) (fun f hf => ?_)
              · obtain ⟨f', rfl, hf'⟩ := succ_ f g1 hf
                rw [el, hg1 f' hf']; rfl
              · obtain ⟨f', rfl, hf'⟩ := succ_ f g2 hf
                rw [er, hg2 f' hf']; rfl
            | good y =>
              obtain ⟨y, l'⟩ := y
              have hl' := s0 _ rfl
              simp only at hl'
              by_cases c6 : hd l' = [41]
              · have ht2 := tail_lt (l := l') (by rw [c6]; decide)
                refine good_ y l'.tail (g1 + 1) g2 (by omega) (fun f hf => ?_) (fun f hf => ?_)
                · obtain ⟨f', rfl, hf'⟩ := succ_ f g1 hf
                  rw [el, hg1 f' hf']
                  show (if _ then _ else _) = _
                  rw [if_pos c6]
                · rw [er, hg2 f hf]
                  show (if _ then _ else _) = _
                  rw [if_pos c6]
              · refine bad_ 4 (g1 + 1) (g2 + 1) (fun f hf => ?_) (fun f hf => ?_)
                · obtain ⟨f', rfl, hf'⟩ := succ_ f g1 hf
                  rw [el, hg1 f' hf']
                  show (if _ then _ else _) = _
                  rw [if_neg c6]
                · obtain ⟨f', rfl, hf'⟩ := succ_ f g2 hf
                  rw [er, hg2 f' hf']
                  show (if _ then _ else _) = _
                  rw [if_neg c6]
        have el : ∀ f, leafP (f + 1) l o = (natP l).bind fun p => .good (.node 1 p.1 [], p.2) := fun f => by rw [leafP, if_neg c3, if_neg c4]
        have er : ∀ f, expR (f + 1) (lvl + 1) l o = (natP l).bind fun p => loopR f (lvl + 1) 9 (.node 1 p.1 []) p.2 o := fun f => by rw [expR, if_neg c1, if_neg c2, if_neg c3, if_neg c4]
        cases hq : natP l with
        | stuck => unfold natP at hq; split at hq <;> (try split at hq) <;> cases hq
        | bad e =>
          refine bad_ e 1 1 (fun f hf => ?_) (fun f hf => ?_)
          · obtain ⟨f', rfl, _⟩ := succ_ f 0 hf
            rw [el, hq]; rfl
          · obtain ⟨f', rfl, _⟩ := succ_ f 0 hf
            rw [er, hq]; rfl
        | good y =>
          have hne : hd l ≠ [] := by
            intro h0
            unfold natP at hq
            rw [h0] at hq
            cases hq
          have hy : y.2 = l.tail := by
            unfold natP at hq
            split at hq
            · cases hq
            · split at hq
              · cases hq
              · injection hq with hq; subst hq; rfl
          refine good_ (.node 1 y.1 []) y.2 1 0 (by rw [hy]; exact tail_lt hne) (fun f hf => ?_) (fun f _ => ?_)
          · obtain ⟨f', rfl, _⟩ := succ_ f 0 hf
            rw [el, hq]; rfl
          · rw [er, hq]; rfl
/-- One result for both. -/
theorem parse_both (l : List Tok) (o lvl : Nat) (h : lvl ≤ 6) : ∃ R, R ≠ .stuck ∧ EP lvl l o R ∧ ER (lvl + 1) l o R := by
  obtain ⟨R, h1, h2, h3, _⟩ := agree (l.length + 1) l (by omega) o lvl h
  exact ⟨R, h1, h2, h3⟩
end Go.Proofs.YtfbmlbenffkpfaaGreatDoor
