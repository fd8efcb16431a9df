/- Several texts in one: Par0, Par1, Par2. -/
import Derived.Test.YtdmkghgachapaabGreatDoorMgT
import Derived.Test.YtdmkghgachapaabGreatDoorTree1
set_option linter.unusedSimpArgs false
namespace Go.Proofs.YtdmkghgachapaabGreatDoor
set_option linter.unusedVariables false
abbrev Tok := List UInt8
def cls (c : UInt8) : Nat := if 97 ≤ c.toNat ∧ c.toNat ≤ 122 then 1 else if 48 ≤ c.toNat ∧ c.toNat ≤ 57 then 2 else 0
def glue (c : UInt8) (r : List UInt8) (l : List Tok) : List Tok := if cls c ≠ 0 ∧ r.head?.map cls = some (cls c) then (c :: l.headD []) :: l.tail else [c] :: l
def toks : List UInt8 → List Tok
  | [] => []
  | c :: r => if c = 32 then toks r else glue c r (toks r)
inductive Res (α : Type) : Type
  | stuck : Res α
  | bad (e : Int) : Res α
  | good (x : α) : Res α
def Res.bind {α β : Type} : Res α → (α → Res β) → Res β
  | .stuck, _ => .stuck
  | .bad e, _ => .bad e
  | .good x, g => g x
abbrev PRes := Res (Tree × List Tok)
def hd (l : List Tok) : Tok := l.headD []
def tNot : Tok := [110, 111, 116]
def opOf (t : Tok) : Option (Int × Nat) :=
  if t = [43] then some (4, 4) else if t = [45] then some (5, 4) else if t = [42] then some (6, 5) else if t = [47] then some (7, 5) else if t = [37] then some (8, 5)
  else if t = [60] then some (9, 3) else if t = [61] then some (10, 3) else if t = [97, 110, 100] then some (12, 1) else if t = [111, 114] then some (13, 0) else none
def opAt (lvl : Nat) (t : Tok) : Option Int := match opOf t with
  | some (k, lv) => if lv = lvl then some k else none
  | none => none
def isDig (t : Tok) : Bool := match t with
  | [] => false
  | c :: _ => decide (48 ≤ c.toNat ∧ c.toNat ≤ 57)
def numOf (t : Tok) : Int := t.foldl (fun n c => 10 * n + ((c.toNat : Int) - 48)) 0
def natP (l : List Tok) : Res (Int × List Tok) := if isDig (hd l) = false then .bad 4 else if 10 < (hd l).length then .bad 2 else .good (numOf (hd l), l.tail)
mutual
def expP : Nat → Nat → List Tok → Nat → PRes
  | 0, _, _, _ => .stuck
  | f + 1, lvl, l, o =>
    if lvl = 2 then (if hd l = tNot then (expP f 2 l.tail o).bind fun p => .good (.node 11 0 [p.1], p.2) else expP f 3 l o)
    else if lvl = 6 then (if hd l = [45] then (expP f 6 l.tail o).bind fun p => .good (.node 3 0 [p.1], p.2) else leafP f l o)
    else (expP f (lvl + 1) l o).bind fun p => loopP f lvl p.1 p.2 o
def loopP : Nat → Nat → Tree → List Tok → Nat → PRes
  | 0, _, _, _, _ => .stuck
  | f + 1, lvl, x, l, o => match opAt lvl (hd l) with
    | none => .good (x, l)
    | some k => (expP f (lvl + 1) l.tail o).bind fun p => if lvl = 3 then .good (.node k 0 [x, p.1], p.2) else loopP f lvl (.node k 0 [x, p.1]) p.2 o
def leafP : Nat → List Tok → Nat → PRes
  | 0, _, _ => .stuck
  | f + 1, l, o =>
    if hd l = [121] then .good (.node 2 0 [], l.tail)
    else if hd l = [40] then (if 12 < o + 1 then .bad 2 else (expP f 0 l.tail (o + 1)).bind fun p => if hd p.2 = [41] then .good (p.1, p.2.tail) else .bad 4)
    else (natP l).bind fun p => .good (.node 1 p.1 [], p.2)
end
mutual
def expR : Nat → Nat → List Tok → Nat → PRes
  | 0, _, _, _ => .stuck
  | f + 1, least, l, o =>
    if hd l = tNot ∧ least ≤ 3 then (expR f 3 l.tail o).bind fun p => loopR f least 3 (.node 11 0 [p.1]) p.2 o
    else if hd l = [45] then (expR f 7 l.tail o).bind fun p => loopR f least 7 (.node 3 0 [p.1]) p.2 o
    else if hd l = [121] then loopR f least 9 (.node 2 0 []) l.tail o
    else if hd l = [40] then (if 12 < o + 1 then .bad 2 else (expR f 1 l.tail (o + 1)).bind fun p => if hd p.2 = [41] then loopR f least 9 p.1 p.2.tail o else .bad 4)
    else (natP l).bind fun p => loopR f least 9 (.node 1 p.1 []) p.2 o
def loopR : Nat → Nat → Nat → Tree → List Tok → Nat → PRes
  | 0, _, _, _, _, _ => .stuck
  | f + 1, least, top, x, l, o => match opOf (hd l) with
    | none => .good (x, l)
    | some (k, lv) => if lv + 1 < least ∨ top < lv + 1 ∨ (lv + 1 = 4 ∧ top = 4) then .good (x, l)
      else (expR f (lv + 2) l.tail o).bind fun p => loopR f least (lv + 1) (.node k 0 [x, p.1]) p.2 o
end
def EP (lvl : Nat) (l : List Tok) (o : Nat) (R : PRes) : Prop := ∃ g, ∀ f, g ≤ f → expP f lvl l o = R
def LP (lvl : Nat) (x : Tree) (l : List Tok) (o : Nat) (R : PRes) : Prop := ∃ g, ∀ f, g ≤ f → loopP f lvl x l o = R
def ER (least : Nat) (l : List Tok) (o : Nat) (R : PRes) : Prop := ∃ g, ∀ f, g ≤ f → expR f least l o = R
def LR (least top : Nat) (x : Tree) (l : List Tok) (o : Nat) (R : PRes) : Prop := ∃ g, ∀ f, g ≤ f → loopR f least top x l o = R
theorem opOf_levels {t : Tok} {k : Int} {lv : Nat} (h : opOf t = some (k, lv)) : lv = 0 ∨ lv = 1 ∨ lv = 3 ∨ lv = 4 ∨ lv = 5 := by
  unfold opOf at h
  repeat' split at h
  all_goals first | (cases h; done) | (injection h with h; injection h with h1 h2; omega)
theorem opOf_ne {t : Tok} {q : Int × Nat} (h : opOf t = some q) : t ≠ [] := by rintro rfl; revert h; decide +revert
theorem opAt_of {lvl : Nat} {t : Tok} {k : Int} (h : opOf t = some (k, lvl)) : opAt lvl t = some k := by unfold opAt; rw [h]; simp
theorem opAt_none {lvl : Nat} {t : Tok} (h : ∀ k, opOf t ≠ some (k, lvl)) : opAt lvl t = none := by
  unfold opAt
  cases hq : opOf t with
  | none => rfl
  | some q =>
    obtain ⟨k, lv⟩ := q
    by_cases he : lv = lvl
    · subst he; exact absurd hq (h k)
    · simp [he]
theorem tail_lt {l : List Tok} (h : hd l ≠ []) : l.tail.length < l.length := by
  cases l with
  | nil => exact absurd rfl h
  | cons t r => simp
def SP (lvl : Nat) (x : Tree) (l : List Tok) (o : Nat) (R : PRes) : Prop := if lvl = 2 then R = .good (x, l) else LP lvl x l o R
inductive CP (b o : Nat) : Nat → Tree → List Tok → PRes → Prop
  | done (x : Tree) (l : List Tok) : CP b o b x l (.good (x, l))
  | fall (v : Nat) (x : Tree) (l : List Tok) (e : Int) : b ≤ v → SP v x l o (.bad e) → CP b o (v + 1) x l (.bad e)
  | step (v : Nat) (x : Tree) (l : List Tok) (p : Tree × List Tok) (R : PRes) : b ≤ v → SP v x l o (.good p) → CP b o v p.1 p.2 R → CP b o (v + 1) x l R
theorem sp_skip {v : Nat} {x : Tree} {l : List Tok} {o : Nat} (h : ∀ k, opOf (hd l) ≠ some (k, v)) : SP v x l o (.good (x, l)) := by
  unfold SP
  split
  · rfl
  · exact ⟨1, fun f hf => by obtain ⟨g, rfl⟩ : ∃ g, f = g + 1 := ⟨f - 1, by omega⟩; rw [loopP, opAt_none h]⟩
theorem cp_down {b o v : Nat} {x : Tree} {l : List Tok} {R : PRes} (w : Nat) (h : CP b o v x l R) (hb : b ≤ v) (hw : v ≤ w) (hs : ∀ k lv, opOf (hd l) = some (k, lv) → lv < v ∨ w ≤ lv) : CP b o w x l R := by
  obtain ⟨d, rfl⟩ : ∃ d, w = v + d := ⟨w - v, by omega⟩
  induction d with
  | zero => exact h
  | succ d ih => exact .step (v + d) x l (x, l) R (by omega) (sp_skip fun k hk => by have := hs k _ hk; omega) (ih (by omega) fun k lv hk => by have := hs k lv hk; omega)
theorem ep_bad {b v : Nat} {l : List Tok} {o : Nat} {e : Int} (h : EP v l o (.bad e)) (hb : b ≤ v) (hv : v ≤ 6) (hn : b ≤ 2 → 2 < v → hd l ≠ tNot) : EP b l o (.bad e) := by
  obtain ⟨d, rfl⟩ : ∃ d, v = b + d := ⟨v - b, by omega⟩
  clear hb
  induction d with
  | zero => exact h
  | succ d ih =>
    refine ih ?_ (by omega) (fun h1 h2 => hn h1 (by omega))
    obtain ⟨g, hg⟩ := h
    refine ⟨g + 1, fun f hf => ?_⟩
    obtain ⟨f', rfl⟩ : ∃ f', f = f' + 1 := ⟨f - 1, by omega⟩
    have h1 := hg f' (by omega)
    rw [show b + (d + 1) = b + d + 1 by omega] at h1
    rw [expP]
    by_cases h2 : b + d = 2
    · rw [if_pos h2, if_neg (hn (by omega) (by omega))]
      rw [h2] at h1; exact h1
    · rw [if_neg h2, if_neg (by omega), h1]; rfl
theorem ep_of_cp {b v : Nat} {l : List Tok} {o : Nat} {x : Tree} {l' : List Tok} {R : PRes} (c : CP b o v x l' R) (hv : v ≤ 6) (h : EP v l o (.good (x, l'))) (hn : b ≤ 2 → 2 < v → hd l ≠ tNot) : EP b l o R := by
  induction c with
  | done x l' => exact h
  | fall v x l' e hb hs =>
    have hv' : EP v l o (.bad e) := by
      obtain ⟨g, hg⟩ := h
      unfold SP at hs
      by_cases h2 : v = 2
      · rw [if_pos h2] at hs; cases hs
      · rw [if_neg h2] at hs
        obtain ⟨g2, hg2⟩ := hs
        refine ⟨g + g2 + 1, fun f hf => ?_⟩
        obtain ⟨f', rfl⟩ : ∃ f', f = f' + 1 := ⟨f - 1, by omega⟩
        rw [expP, if_neg h2, if_neg (by omega), hg f' (by omega)]
        exact hg2 f' (by omega)
    exact ep_bad hv' hb (by omega) (fun h1 h2 => hn h1 (by omega))
  | step v x l' p R hb hs _ ih =>
    refine ih (by omega) ?_ (fun h1 h2 => hn h1 (by omega))
    obtain ⟨g, hg⟩ := h
    unfold SP at hs
    by_cases h2 : v = 2
    · rw [if_pos h2] at hs
      injection hs with hs
      subst hs h2
      refine ⟨g + 1, fun f hf => ?_⟩
      obtain ⟨f', rfl⟩ : ∃ f', f = f' + 1 := ⟨f - 1, by omega⟩
      rw [expP, if_pos rfl, if_neg (hn hb (by omega)), hg f' (by omega)]
    · rw [if_neg h2] at hs
      obtain ⟨g2, hg2⟩ := hs
      refine ⟨g + g2 + 1, fun f hf => ?_⟩
      obtain ⟨f', rfl⟩ : ∃ f', f = f' + 1 := ⟨f - 1, by omega⟩
      rw [expP, if_neg h2, if_neg (by omega), hg f' (by omega)]
      exact hg2 f' (by omega)
def Agree (n : Nat) : Prop := ∀ (l : List Tok), l.length < n → ∀ (o lvl : Nat), lvl ≤ 6 → ∃ R, R ≠ .stuck ∧ EP lvl l o R ∧ ER (lvl + 1) l o R ∧ ∀ p, R = .good p → p.2.length < l.length
def vOf (top : Nat) : Nat := if top = 4 then 3 else if top = 3 then 2 else min top 6
theorem loop_agree {n : Nat} (A : Agree n) (o b : Nat) (hb : b ≤ 6) : ∀ (m : Nat) (l : List Tok), l.length ≤ m → l.length ≤ n → ∀ (x : Tree) (top : Nat), b ≤ vOf top → 1 ≤ top → ∃ R, R ≠ .stuck ∧ CP b o (vOf top) x l R ∧ LR (b + 1) top x l o R ∧ ∀ p, R = .good p → p.2.length ≤ l.length := by
  intro m
  induction m with
  | zero =>
    intro l hl hn x top hv h1
    have : l = [] := List.length_eq_zero_iff.1 (by omega)
    subst this
    refine ⟨.good (x, []), by simp, cp_down (vOf top) (.done x []) (Nat.le_refl _) hv (fun k lv hk => absurd rfl (opOf_ne hk)), ⟨1, fun f hf => ?_⟩, fun p hp => ?_⟩
    · obtain ⟨g, rfl⟩ : ∃ g, f = g + 1 := ⟨f - 1, by omega⟩
      rw [loopR]; rfl
    · injection hp with hp; subst hp; simp
  | succ m ih =>
    intro l hl hn x top hv h1
    have skip : (∀ k lv, opOf (hd l) = some (k, lv) → lv < b ∨ vOf top ≤ lv) → (∀ k lv, opOf (hd l) = some (k, lv) → lv + 1 < b + 1 ∨ top < lv + 1 ∨ (lv + 1 = 4 ∧ top = 4)) →
        ∃ R, R ≠ .stuck ∧ CP b o (vOf top) x l R ∧ LR (b + 1) top x l o R ∧ ∀ p, R = .good p → p.2.length ≤ l.length := by
      intro h2 h3
      refine ⟨.good (x, l), by simp, cp_down (vOf top) (.done x l) (Nat.le_refl _) hv h2, ⟨1, fun f hf => ?_⟩, fun p hp => ?_⟩
      · obtain ⟨g, rfl⟩ : ∃ g, f = g + 1 := ⟨f - 1, by omega⟩
        rw [loopR]
        cases hq : opOf (hd l) with
        | none => rfl
        | some q => obtain ⟨k, lv⟩ := q; simp only; rw [if_pos (h3 k lv hq)]
      · injection hp with hp; subst hp; exact Nat.le_refl _
    cases hq : opOf (hd l) with
    | none => exact skip (fun k lv hk => by rw [hq] at hk; cases hk) (fun k lv hk => by rw [hq] at hk; cases hk)
    | some q =>
      obtain ⟨k, lv⟩ := q
      have hlv := opOf_levels hq
      by_cases ha : lv + 1 < b + 1 ∨ top < lv + 1 ∨ (lv + 1 = 4 ∧ top = 4)
      · refine skip (fun k' lv' hk => ?_) (fun k' lv' hk => ?_)
        · rw [hq] at hk; injection hk with hk; injection hk with e1 e2; subst e2
          unfold vOf at hv ⊢
          split <;> (try split) <;> omega
        · rw [hq] at hk; injection hk with hk; injection hk with e1 e2; subst e2; exact ha
      · have hlt := tail_lt (opOf_ne hq)
        have hbv : b ≤ lv := by omega
        have hvt : lv + 1 ≤ vOf top := by
          unfold vOf at hv ⊢
          split
          · omega
          · split
            · omega
            · omega
        obtain ⟨R0, r0, e0, er0, s0⟩ := A l.tail (by omega) o (lv + 1) (by omega)
        have outer : ∀ R, CP b o (lv + 1) x l R → CP b o (vOf top) x l R := fun R h => cp_down (vOf top) h (by omega) hvt (fun k' lv' hk => by rw [hq] at hk; injection hk with hk; injection hk with e1 e2; omega)
        have lrun : ∀ f, loopR (f + 1) (b + 1) top x l o = (expR f (lv + 2) l.tail o).bind fun p => loopR f (b + 1) (lv + 1) (.node k 0 [x, p.1]) p.2 o := fun f => by rw [loopR, hq]; simp only; rw [if_neg ha]
        have prun : ∀ f, loopP (f + 1) lv x l o = (expP f (lv + 1) l.tail o).bind fun p => if lv = 3 then .good (.node k 0 [x, p.1], p.2) else loopP f lv (.node k 0 [x, p.1]) p.2 o := fun f => by rw [loopP, opAt_of hq]
        obtain ⟨g1, hg1⟩ := e0
        obtain ⟨g2, hg2⟩ := er0
        cases R0 with
        | stuck => exact absurd rfl r0
        | bad e =>
          refine ⟨.bad e, by simp, outer _ (.fall lv x l e hbv ?_), ⟨g2 + 1, fun f hf => ?_⟩, fun p hp => by cases hp⟩
          · unfold SP
            rw [if_neg (by omega)]
            refine ⟨g1 + 1, fun f hf => ?_⟩
            obtain ⟨f', rfl⟩ : ∃ f', f = f' + 1 := ⟨f - 1, by omega⟩
            rw [prun, hg1 f' (by omega)]; rfl
          · obtain ⟨f', rfl⟩ : ∃ f', f = f' + 1 := ⟨f - 1, by omega⟩
            rw [lrun, hg2 f' (by omega)]; rfl
        | good y =>
          obtain ⟨y, l'⟩ := y
          have hl' := s0 _ rfl
          simp only at hl'
          have hv2 : b ≤ vOf (lv + 1) := by
            unfold vOf
            split
            · omega
            · split <;> omega
          obtain ⟨R, r1, c1, lr1, s1⟩ := ih l' (by omega) (by omega) (.node k 0 [x, y]) (lv + 1) hv2 (by omega)
          obtain ⟨g3, hg3⟩ := lr1
          refine ⟨R, r1, outer _ ?_, ⟨g2 + g3 + 1, fun f hf => ?_⟩, fun p hp => by have := s1 p hp; omega⟩
          · by_cases h3 : lv = 3
            · subst h3
              refine .step 3 x l (.node k 0 [x, y], l') R hbv ?_ c1
              unfold SP
              rw [if_neg (by omega)]
              refine ⟨g1 + 1, fun f hf => ?_⟩
              obtain ⟨f', rfl⟩ : ∃ f', f = f' + 1 := ⟨f - 1, by omega⟩
              rw [prun, hg1 f' (by omega)]; rfl
            · have hvl : vOf (lv + 1) = lv + 1 := by
                unfold vOf
                rw [if_neg (by omega), if_neg (by omega)]
                omega
              rw [hvl] at c1
              have back : ∀ R', SP lv (.node k 0 [x, y]) l' o R' → SP lv x l o R' := by
                intro R' hs
                unfold SP at hs ⊢
                rw [if_neg (by omega)] at hs ⊢
                obtain ⟨g4, hg4⟩ := hs
                refine ⟨g1 + g4 + 1, fun f hf => ?_⟩
                obtain ⟨f', rfl⟩ : ∃ f', f = f' + 1 := ⟨f - 1, by omega⟩
                rw [prun, hg1 f' (by omega)]
                show (if lv = 3 then _ else _) = _
                rw [if_neg h3]
                exact hg4 f' (by omega)
              cases c1 with
              | done => omega
              | fall _ _ _ e hb' hs => exact .fall lv x l e hb' (back _ hs)
              | step _ _ _ p _ hb' hs hc => exact .step lv x l p R hb' (back _ hs) hc
          · obtain ⟨f', rfl⟩ : ∃ f', f = f' + 1 := ⟨f - 1, by omega⟩
            rw [lrun, hg2 f' (by omega)]
            exact hg3 f' (by omega)
theorem agree : ∀ n, Agree n := by
  intro n
  induction n with
  | zero => intro l hl; omega
  | succ n A =>
    intro l hl o lvl hlv
    have succ_ : ∀ f g : Nat, g + 1 ≤ f → ∃ f', f = f' + 1 ∧ g ≤ f' := fun f g h => ⟨f - 1, by omega, by omega⟩
    by_cases c1 : hd l = tNot ∧ lvl + 1 ≤ 3
    · have hne : hd l ≠ [] := by rw [c1.1]; decide
      have ht := tail_lt hne
      obtain ⟨R0, r0, ⟨g1, hg1⟩, ⟨g2, hg2⟩, s0⟩ := A l.tail (by omega) o 2 (by omega)
      have er : ∀ f, expR (f + 1) (lvl + 1) l o = (expR f 3 l.tail o).bind fun p => loopR f (lvl + 1) 3 (.node 11 0 [p.1]) p.2 o := fun f => by rw [expR, if_pos c1]
      have ep : ∀ f, expP (f + 1) 2 l o = (expP f 2 l.tail o).bind fun p => .good (.node 11 0 [p.1], p.2) := fun f => by rw [expP, if_pos rfl, if_pos c1.1]
      cases R0 with
      | stuck => exact absurd rfl r0
      | bad e =>
        refine ⟨.bad e, by simp, ep_bad (v := 2) ⟨g1 + 1, fun f hf => ?_⟩ (by omega) (by omega) (fun _ h => by omega), ⟨g2 + 1, fun f hf => ?_⟩, fun p hp => by cases hp⟩
        · obtain ⟨f', rfl, hf'⟩ := succ_ f g1 hf
          rw [ep, hg1 f' hf']; rfl
        · obtain ⟨f', rfl, hf'⟩ := succ_ f g2 hf
          rw [er, hg2 f' hf']; rfl
      | good y =>
        obtain ⟨y, l'⟩ := y
        have hl' := s0 _ rfl
        simp only at hl'
        obtain ⟨R, r1, k1, ⟨g3, hg3⟩, s1⟩ := loop_agree A o lvl hlv l'.length l' (Nat.le_refl _) (by omega) (.node 11 0 [y]) 3 (show lvl ≤ 2 by omega) (by omega)
        refine ⟨R, r1, ep_of_cp k1 (by decide) ⟨g1 + 1, fun f hf => ?_⟩ (fun _ h => absurd h (by decide)), ⟨g2 + g3 + 1, fun f hf => ?_⟩, fun p hp => by have := s1 p hp; omega⟩
        · obtain ⟨f', rfl, hf'⟩ := succ_ f g1 hf
          show expP (f' + 1) 2 l o = _
          rw [ep, hg1 f' hf']; rfl
        · obtain ⟨f', rfl, hf'⟩ := succ_ f (g2 + g3) hf
          rw [er, hg2 f' (by omega)]
          exact hg3 f' (by omega)
    · have hn : lvl ≤ 2 → 2 < 6 → hd l ≠ tNot := fun h _ h2 => c1 ⟨h2, by omega⟩
      have v9 : vOf 9 = 6 := by decide
      have v7 : vOf 7 = 6 := by decide
      by_cases c2 : hd l = [45]
      · have hne : hd l ≠ [] := by rw [c2]; decide
        have ht := tail_lt hne
        obtain ⟨R0, r0, ⟨g1, hg1⟩, ⟨g2, hg2⟩, s0⟩ := A l.tail (by omega) o 6 (by omega)
        have er : ∀ f, expR (f + 1) (lvl + 1) l o = (expR f 7 l.tail o).bind fun p => loopR f (lvl + 1) 7 (.node 3 0 [p.1]) p.2 o := fun f => by rw [expR, if_neg c1, if_pos c2]
        have ep : ∀ f, expP (f + 1) 6 l o = (expP f 6 l.tail o).bind fun p => .good (.node 3 0 [p.1], p.2) := fun f => by rw [expP, if_neg (by omega), if_pos rfl, if_pos c2]
        cases R0 with
        | stuck => exact absurd rfl r0
        | bad e =>
          refine ⟨.bad e, by simp, ep_bad (v := 6) ⟨g1 + 1, fun f hf => ?_⟩ (by omega) (by omega) hn, ⟨g2 + 1, fun f hf => ?_⟩, fun p hp => by cases hp⟩
          · obtain ⟨f', rfl, hf'⟩ := succ_ f g1 hf
            rw [ep, hg1 f' hf']; rfl
          · obtain ⟨f', rfl, hf'⟩ := succ_ f g2 hf
            rw [er, hg2 f' hf']; rfl
        | good y =>
          obtain ⟨y, l'⟩ := y
          have hl' := s0 _ rfl
          simp only at hl'
          obtain ⟨R, r1, k1, ⟨g3, hg3⟩, s1⟩ := loop_agree A o lvl hlv l'.length l' (Nat.le_refl _) (by omega) (.node 3 0 [y]) 7 (by rw [v7]; omega) (by omega)
          rw [v7] at k1
          refine ⟨R, r1, ep_of_cp k1 (by omega) ⟨g1 + 1, fun f hf => ?_⟩ hn, ⟨g2 + g3 + 1, fun f hf => ?_⟩, fun p hp => by have := s1 p hp; omega⟩
          · obtain ⟨f', rfl, hf'⟩ := succ_ f g1 hf
            rw [ep, hg1 f' hf']; rfl
          · obtain ⟨f', rfl, hf'⟩ := succ_ f (g2 + g3) hf
            rw [er, hg2 f' (by omega)]
            exact hg3 f' (by omega)
      · have ep : ∀ f, expP (f + 1) 6 l o = leafP f l o := fun f => by rw [expP, if_neg (by omega), if_pos rfl, if_neg c2]
        -- a leaf that is bad
        have bad_ : ∀ (e : Int) (g1 g2 : Nat), (∀ f, g1 ≤ f → leafP f l o = .bad e) → (∀ f, g2 ≤ f → expR f (lvl + 1) l o = .bad e) → ∃ R, R ≠ .stuck ∧ EP lvl l o R ∧ ER (lvl + 1) l o R ∧ ∀ p, R = .good p → p.2.length < l.length := by
          intro e g1 g2 h1 h2
          refine ⟨.bad e, by simp, ep_bad (v := 6) ⟨g1 + 1, fun f hf => ?_⟩ (by omega) (by omega) hn, ⟨g2, h2⟩, fun p hp => by cases hp⟩
          obtain ⟨f', rfl, hf'⟩ := succ_ f g1 hf
          rw [ep, h1 f' hf']
        -- a leaf that is good
        have good_ : ∀ (x : Tree) (l' : List Tok) (g1 g2 : Nat), l'.length < l.length → (∀ f, g1 ≤ f → leafP f l o = .good (x, l')) → (∀ f, g2 ≤ f → expR (f + 1) (lvl + 1) l o = loopR f (lvl + 1) 9 x l' o) → ∃ R, R ≠ .stuck ∧ EP lvl l o R ∧ ER (lvl + 1) l o R ∧ ∀ p, R = .good p → p.2.length < l.length := by
          intro x l' g1 g2 hl' h1 h2
          obtain ⟨R, r1, k1, ⟨g3, hg3⟩, s1⟩ := loop_agree A o lvl hlv l'.length l' (Nat.le_refl _) (by omega) x 9 (by rw [v9]; omega) (by omega)
          rw [v9] at k1
          refine ⟨R, r1, ep_of_cp k1 (by omega) ⟨g1 + 1, fun f hf => ?_⟩ hn, ⟨g2 + g3 + 1, fun f hf => ?_⟩, fun p hp => by have := s1 p hp; omega⟩
          · obtain ⟨f', rfl, hf'⟩ := succ_ f g1 hf
            rw [ep, h1 f' hf']
          · obtain ⟨f', rfl, hf'⟩ := succ_ f (g2 + g3) hf
            rw [h2 f' (by omega)]
            exact hg3 f' (by omega)
        by_cases c3 : hd l = [121]
        · refine good_ (.node 2 0 []) l.tail 1 0 (tail_lt (by rw [c3]; decide)) (fun f hf => ?_) (fun f _ => by rw [expR, if_neg c1, if_neg c2, if_pos c3])
          obtain ⟨f', rfl, _⟩ := succ_ f 0 hf
          rw [leafP, if_pos c3]
        by_cases c4 : hd l = [40]
        · by_cases c5 : 12 < o + 1
          · refine bad_ 2 1 1 (fun f hf => ?_) (fun f hf => ?_)
            · obtain ⟨f', rfl, _⟩ := succ_ f 0 hf
              rw [leafP, if_neg c3, if_pos c4, if_pos c5]
            · obtain ⟨f', rfl, _⟩ := succ_ f 0 hf
              rw [expR, if_neg c1, if_neg c2, if_neg c3, if_pos c4, if_pos c5]
          · have ht := tail_lt (l := l) (by rw [c4]; decide)
            obtain ⟨R0, r0, ⟨g1, hg1⟩, ⟨g2, hg2⟩, s0⟩ := A l.tail (by omega) (o + 1) 0 (by omega)
            have el : ∀ f, leafP (f + 1) l o = (expP f 0 l.tail (o + 1)).bind fun p => if hd p.2 = [41] then .good (p.1, p.2.tail) else .bad 4 := fun f => by rw [leafP, if_neg c3, if_pos c4, if_neg c5]
            have er : ∀ f, expR (f + 1) (lvl + 1) l o = (expR f 1 l.tail (o + 1)).bind fun p => if hd p.2 = [41] then loopR f (lvl + 1) 9 p.1 p.2.tail o else .bad 4 := fun f => by rw [expR, if_neg c1, if_neg c2, if_neg c3, if_pos c4, if_neg c5]
            cases R0 with
            | stuck => exact absurd rfl r0
            | bad e =>
              refine bad_ e (g1 + 1) (g2 + 1) (fun f hf => ?_) (fun f hf => ?_)
              · obtain ⟨f', rfl, hf'⟩ := succ_ f g1 hf
                rw [el, hg1 f' hf']; rfl
              · obtain ⟨f', rfl, hf'⟩ := succ_ f g2 hf
                rw [er, hg2 f' hf']; rfl
            | good y =>
              obtain ⟨y, l'⟩ := y
              have hl' := s0 _ rfl
              simp only at hl'
              by_cases c6 : hd l' = [41]
              · have ht2 := tail_lt (l := l') (by rw [c6]; decide)
                refine good_ y l'.tail (g1 + 1) g2 (by omega) (fun f hf => ?_) (fun f hf => ?_)
                · obtain ⟨f', rfl, hf'⟩ := succ_ f g1 hf
                  rw [el, hg1 f' hf']
                  show (if _ then _ else _) = _
                  rw [if_pos c6]
                · rw [er, hg2 f hf]
                  show (if _ then _ else _) = _
                  rw [if_pos c6]
              · refine bad_ 4 (g1 + 1) (g2 + 1) (fun f hf => ?_) (fun f hf => ?_)
                · obtain ⟨f', rfl, hf'⟩ := succ_ f g1 hf
                  rw [el, hg1 f' hf']
                  show (if _ then _ else _) = _
                  rw [if_neg c6]
                · obtain ⟨f', rfl, hf'⟩ := succ_ f g2 hf
                  rw [er, hg2 f' hf']
                  show (if _ then _ else _) = _
                  rw [if_neg c6]
        have el : ∀ f, leafP (f + 1) l o = (natP l).bind fun p => .good (.node 1 p.1 [], p.2) := fun f => by rw [leafP, if_neg c3, if_neg c4]
        have er : ∀ f, expR (f + 1) (lvl + 1) l o = (natP l).bind fun p => loopR f (lvl + 1) 9 (.node 1 p.1 []) p.2 o := fun f => by rw [expR, if_neg c1, if_neg c2, if_neg c3, if_neg c4]
        cases hq : natP l with
        | stuck => unfold natP at hq; split at hq <;> (try split at hq) <;> cases hq
        | bad e =>
          refine bad_ e 1 1 (fun f hf => ?_) (fun f hf => ?_)
          · obtain ⟨f', rfl, _⟩ := succ_ f 0 hf
            rw [el, hq]; rfl
          · obtain ⟨f', rfl, _⟩ := succ_ f 0 hf
            rw [er, hq]; rfl
        | good y =>
          have hne : hd l ≠ [] := by
            intro h0
            unfold natP at hq
            rw [h0] at hq
            cases hq
          have hy : y.2 = l.tail := by
            unfold natP at hq
            split at hq
            · cases hq
            · split at hq
              · cases hq
              · injection hq with hq; subst hq; rfl
          refine good_ (.node 1 y.1 []) y.2 1 0 (by rw [hy]; exact tail_lt hne) (fun f hf => ?_) (fun f _ => ?_)
          · obtain ⟨f', rfl, _⟩ := succ_ f 0 hf
            rw [el, hq]; rfl
          · rw [er, hq]; rfl
theorem parse_both (l : List Tok) (o lvl : Nat) (h : lvl ≤ 6) : ∃ R, R ≠ .stuck ∧ EP lvl l o R ∧ ER (lvl + 1) l o R := by
  obtain ⟨R, h1, h2, h3, _⟩ := agree (l.length + 1) l (by omega) o lvl h
  exact ⟨R, h1, h2, h3⟩
end Go.Proofs.YtdmkghgachapaabGreatDoor

set_option linter.unusedSimpArgs false
namespace Go.Proofs.YtdmkghgachapaabGreatDoor
set_option linter.unusedVariables false
def inR (lo hi : Nat) (c : UInt8) : Bool := decide (lo ≤ c.toNat) && decide (c.toNat ≤ hi)
def runLen (p : UInt8 → Bool) : List UInt8 → Nat
  | [] => 0
  | c :: r => if p c = true then runLen p r + 1 else 0
def runTo (p : UInt8 → Bool) (s : List UInt8) (i : Nat) : Nat := i + runLen p (s.drop i)
theorem runLen_le (p : UInt8 → Bool) : ∀ l : List UInt8, runLen p l ≤ l.length
  | [] => Nat.le_refl _
  | c :: r => by
    rw [runLen]; have := runLen_le p r
    split <;> simp <;> omega
theorem runTo_le (p : UInt8 → Bool) (s : List UInt8) (i : Nat) (h : i ≤ s.length) : runTo p s i ≤ s.length := by
  have := runLen_le p (s.drop i)
  rw [List.length_drop] at this
  unfold runTo; omega
theorem runTo_end (p : UInt8 → Bool) (s : List UInt8) (i : Nat) (h : s.length ≤ i) : runTo p s i = i := by
  unfold runTo; rw [List.drop_eq_nil_of_le h]; rfl
theorem runTo_yes (p : UInt8 → Bool) (s : List UInt8) (i : Nat) (c : UInt8) (h : s[i]? = some c) (hp : p c = true) : runTo p s i = runTo p s (i + 1) := by
  obtain ⟨hl, rfl⟩ := List.getElem?_eq_some_iff.1 h
  unfold runTo
  rw [List.drop_eq_getElem_cons hl, runLen, if_pos hp]; omega
theorem runTo_no (p : UInt8 → Bool) (s : List UInt8) (i : Nat) (c : UInt8) (h : s[i]? = some c) (hp : p c = false) : runTo p s i = i := by
  obtain ⟨hl, rfl⟩ := List.getElem?_eq_some_iff.1 h
  unfold runTo
  rw [List.drop_eq_getElem_cons hl, runLen, if_neg (by rw [hp]; simp)]; rfl
theorem cls_blank : cls 32 = 0 := by decide
theorem cls_1 (c : UInt8) : inR 97 122 c = decide (cls c = 1) := by
  unfold inR cls
  by_cases h : 97 ≤ c.toNat ∧ c.toNat ≤ 122
  · rw [if_pos h, decide_eq_true h.1, decide_eq_true h.2]; rfl
  · rw [if_neg h]
    have h1 : (decide (97 ≤ c.toNat) && decide (c.toNat ≤ 122)) = false := by rw [Bool.and_eq_false_iff]; by_cases h2 : 97 ≤ c.toNat <;> simp [h2]; omega
    rw [h1]; split <;> rfl
theorem cls_2 (c : UInt8) : inR 48 57 c = decide (cls c = 2) := by
  unfold inR cls
  by_cases h : 48 ≤ c.toNat ∧ c.toNat ≤ 57
  · rw [if_neg (by omega), if_pos h, decide_eq_true h.1, decide_eq_true h.2]; rfl
  · rw [if_neg h]
    have h1 : (decide (48 ≤ c.toNat) && decide (c.toNat ≤ 57)) = false := by rw [Bool.and_eq_false_iff]; by_cases h2 : 48 ≤ c.toNat <;> simp [h2]; omega
    rw [h1]; split <;> rfl
theorem blank_inR (c : UInt8) : inR 32 32 c = decide (c = 32) := by
  unfold inR
  by_cases h : c = 32
  · subst h; rfl
  · have : c.toNat ≠ 32 := fun e => h (UInt8.toNat_inj.1 e)
    rw [decide_eq_false h]
    by_cases h2 : 32 ≤ c.toNat
    · rw [decide_eq_true h2, decide_eq_false (by omega)]; rfl
    · rw [decide_eq_false h2]; rfl
theorem cls_ne {c : UInt8} (h : cls c ≠ 0) : c ≠ 32 := by rintro rfl; exact h cls_blank
theorem toks_blank : ∀ r : List UInt8, toks r = toks (r.drop (runLen (inR 32 32) r))
  | [] => rfl
  | c :: r => by
    rw [runLen, blank_inR]
    by_cases h : c = 32
    · rw [if_pos (decide_eq_true h), toks, if_pos h, List.drop_succ_cons]; exact toks_blank r
    · rw [if_neg (by simpa using h)]; rfl
theorem toks_one {c : UInt8} (r : List UInt8) (h : cls c = 0) (hc : c ≠ 32) : toks (c :: r) = [c] :: toks r := by
  rw [toks, if_neg hc, glue, if_neg (by omega)]
theorem toks_run (k : Nat) (hk : k ≠ 0) : ∀ (r : List UInt8) (c : UInt8), cls c = k → toks (c :: r) = (c :: r).take (runLen (fun d => decide (cls d = k)) (c :: r)) :: toks ((c :: r).drop (runLen (fun d => decide (cls d = k)) (c :: r)))
  | [], c, h => by
    have hc : c ≠ 32 := cls_ne (by omega)
    simp [toks, hc, runLen, h, glue]
  | d :: r, c, h => by
    have hc : c ≠ 32 := cls_ne (by omega)
    rw [toks, if_neg hc, runLen, if_pos (decide_eq_true h)]
    by_cases hd' : cls d = k
    · rw [toks_run k hk r d hd', glue, if_pos ⟨by omega, by simp [hd', h]⟩]
      simp
    · rw [glue, if_neg (by simp [h, hd'])]
      rw [runLen, if_neg (by simpa using hd')]
      simp
theorem runLen_congr {p q : UInt8 → Bool} (h : ∀ c, p c = q c) (l : List UInt8) : runLen p l = runLen q l := by
  have : p = q := funext h
  rw [this]
def scanAt (s : List UInt8) (n : Nat) : Nat := runTo (inR 32 32) s n
def scanNx (s : List UInt8) (n : Nat) : Nat :=
  let a := scanAt s n
  let m := max (runTo (inR 97 122) s a) (runTo (inR 48 57) s a)
  if m = a ∧ a < s.length then m + 1 else m
def Pos (s : List UInt8) (a n : Nat) (l : List Tok) : Prop := a ≤ n ∧ n ≤ s.length ∧ hd l = (s.drop a).take (n - a) ∧ l.tail = toks (s.drop n) ∧ (l = [] ↔ a = n)
theorem scan_pos (s : List UInt8) (n : Nat) (hn : n ≤ s.length) : Pos s (scanAt s n) (scanNx s n) (toks (s.drop n)) := by
  have ha : scanAt s n ≤ s.length := runTo_le (inR 32 32) s n hn
  have e0 : toks (s.drop n) = toks (s.drop (scanAt s n)) := by
    rw [toks_blank (s.drop n), List.drop_drop]; rfl
  have hnb : ∀ c r, s.drop (scanAt s n) = c :: r → c ≠ 32 := by
    intro c r hc h
    have : ∀ l : List UInt8, ∀ c r, l.drop (runLen (inR 32 32) l) = c :: r → c ≠ 32 := by
      intro l
      induction l with
      | nil => intro c r h; simp [runLen] at h
      | cons d l ih =>
        intro c r h
        rw [runLen] at h
        by_cases hd' : inR 32 32 d = true
        · rw [if_pos hd', List.drop_succ_cons] at h; exact ih c r h
        · rw [if_neg hd'] at h
          simp at h
          rw [blank_inR] at hd'
          rw [← h.1]; simpa using hd'
    refine this (s.drop n) c r ?_ h
    rw [List.drop_drop]; exact hc
  rw [e0]
  have hdl : (s.drop (scanAt s n)).length = s.length - scanAt s n := List.length_drop
  have h1 : runTo (inR 97 122) s (scanAt s n) = scanAt s n + runLen (fun d => decide (cls d = 1)) (s.drop (scanAt s n)) := by
    unfold runTo; rw [runLen_congr cls_1]
  have h2 : runTo (inR 48 57) s (scanAt s n) = scanAt s n + runLen (fun d => decide (cls d = 2)) (s.drop (scanAt s n)) := by
    unfold runTo; rw [runLen_congr cls_2]
  have hnx : scanNx s n = if max (runTo (inR 97 122) s (scanAt s n)) (runTo (inR 48 57) s (scanAt s n)) = scanAt s n ∧ scanAt s n < s.length then max (runTo (inR 97 122) s (scanAt s n)) (runTo (inR 48 57) s (scanAt s n)) + 1 else max (runTo (inR 97 122) s (scanAt s n)) (runTo (inR 48 57) s (scanAt s n)) := rfl
  rw [hnx, h1, h2]
  generalize scanAt s n = a at *
  clear h1 h2 hnx e0 hn
  cases hs : s.drop a with
  | nil =>
    rw [hs] at hdl
    simp at hdl
    have : a = s.length := by omega
    subst this
    simp only [runLen, Nat.add_zero, Nat.max_self, Nat.lt_irrefl, and_false, if_false]
    refine ⟨Nat.le_refl _, Nat.le_refl _, ?_, ?_, ?_⟩
    · simp [hd, toks]
    · rw [hs]; rfl
    · simp [toks]
  | cons c r =>
    rw [hs] at hdl
    have hc := hnb c r hs
    have hlt : a < s.length := by simp at hdl; omega
    have dr : ∀ k, (c :: r).drop k = s.drop (a + k) := fun k => by rw [← hs, List.drop_drop]
    have big : ∀ k, k ≠ 0 → cls c = k → 1 ≤ runLen (fun d => decide (cls d = k)) (c :: r) := fun k hk h => by rw [runLen, if_pos (decide_eq_true h)]; omega
    have small : ∀ k, cls c ≠ k → runLen (fun d => decide (cls d = k)) (c :: r) = 0 := fun k h => by rw [runLen, if_neg (by simpa using h)]
    have le_ : ∀ k, runLen (fun d => decide (cls d = k)) (c :: r) ≤ s.length - a := fun k => by rw [← hdl]; exact runLen_le _ _
    have fin : ∀ k, k ≠ 0 → cls c = k → ∀ m, m = a + runLen (fun d => decide (cls d = k)) (c :: r) → Pos s a m (toks (c :: r)) := by
      intro k hk h m hm
      have hb := big k hk h
      have hl := le_ k
      rw [toks_run k hk r c h]
      refine ⟨by omega, by omega, ?_, ?_, ?_⟩
      · rw [hs, hm, Nat.add_sub_cancel_left]; rfl
      · rw [List.tail_cons, hm, dr]
      · simp; omega
    by_cases c1 : cls c = 1
    · have hb := big 1 (by omega) c1
      rw [small 2 (by omega)]
      rw [show max (a + runLen (fun d => decide (cls d = 1)) (c :: r)) (a + 0) = a + runLen (fun d => decide (cls d = 1)) (c :: r) by omega, if_neg (by omega)]
      exact fin 1 (by omega) c1 _ rfl
    · by_cases c2 : cls c = 2
      · have hb := big 2 (by omega) c2
        rw [small 1 (by omega)]
        rw [show max (a + 0) (a + runLen (fun d => decide (cls d = 2)) (c :: r)) = a + runLen (fun d => decide (cls d = 2)) (c :: r) by omega, if_neg (by omega)]
        exact fin 2 (by omega) c2 _ rfl
      · have c0 : cls c = 0 := by unfold cls at c1 c2 ⊢; split <;> simp_all
        rw [small 1 c1, small 2 c2, Nat.add_zero, Nat.max_self, if_pos ⟨rfl, hlt⟩, toks_one r c0 hc]
        refine ⟨by omega, by omega, ?_, ?_, ?_⟩
        · rw [hs, Nat.add_sub_cancel_left]; rfl
        · rw [List.tail_cons, ← dr 1]; rfl
        · simp
def wordsGo (out : List Tok) (kind : Nat) : List UInt8 → List Tok
  | [] => out
  | c :: r => if c = 32 then wordsGo out 0 r else
    if cls c ≠ 0 ∧ cls c = kind then wordsGo (out.set (out.length - 1) (out.getD (out.length - 1) [] ++ [c])) (cls c) r
    else wordsGo (out ++ [[c]]) (cls c) r
theorem wordsGo_toks : ∀ (r : List UInt8) (out : List Tok) (kind : Nat),
    wordsGo out kind r = (if kind ≠ 0 ∧ r.head?.map cls = some kind ∧ out ≠ [] then out.dropLast ++ (out.getLastD [] ++ (toks r).headD []) :: (toks r).tail else out ++ toks r) ∨ (kind ≠ 0 ∧ out = []) 
  | [], out, kind => by left; simp [wordsGo, toks]
  | c :: r, out, kind => by
    by_cases h0 : kind ≠ 0 ∧ out = []
    · exact .inr h0
    left
    rw [wordsGo]
    by_cases hb : c = 32
    · subst hb
      rw [if_pos rfl, if_neg (by rw [List.head?_cons, Option.map_some, cls_blank]; rintro ⟨h1, h2, _⟩; injection h2 with h2; omega), toks, if_pos rfl]
      rcases wordsGo_toks r out 0 with h | h
      · rw [h, if_neg (by simp)]
      · exact absurd rfl h.1
    · rw [if_neg hb]
      by_cases hk : cls c ≠ 0 ∧ cls c = kind
      · have hne : out ≠ [] := fun h => h0 ⟨by omega, h⟩
        rw [if_pos hk, if_pos ⟨by omega, by simp [hk.2], hne⟩]
        obtain ⟨o, t, rfl⟩ : ∃ o t, out = o ++ [t] := ⟨out.dropLast, out.getLast hne, (List.dropLast_concat_getLast hne).symm⟩
        have e1 : (o ++ [t]).set ((o ++ [t]).length - 1) ((o ++ [t]).getD ((o ++ [t]).length - 1) [] ++ [c]) = o ++ [t ++ [c]] := by
          simp [List.getD_eq_getElem?_getD]
        rw [e1]
        have e2 : (o ++ [t]).dropLast = o := by simp
        have e3 : (o ++ [t]).getLastD [] = t := by simp
        rw [e2, e3, toks, if_neg hb]
        rcases wordsGo_toks r (o ++ [t ++ [c]]) (cls c) with h | h
        · rw [h]
          have e4 : (o ++ [t ++ [c]]).dropLast = o := by simp
          have e5 : (o ++ [t ++ [c]]).getLastD [] = t ++ [c] := by simp
          rw [e4, e5, glue]
          by_cases hg : r.head?.map cls = some (cls c)
          · rw [if_pos ⟨hk.1, hg, by simp⟩, if_pos ⟨hk.1, hg⟩]
            simp
          · rw [if_neg (fun h => hg h.2.1), if_neg (fun h => hg h.2)]
            simp
        · exact absurd h.2 (by simp)
      · rw [if_neg hk, if_neg (by rw [List.head?_cons, Option.map_some]; rintro ⟨h1, h2, _⟩; injection h2 with h2; exact hk ⟨by omega, h2⟩), toks, if_neg hb]
        rcases wordsGo_toks r (out ++ [[c]]) (cls c) with h | h
        · rw [h, glue]
          by_cases hg : cls c ≠ 0 ∧ r.head?.map cls = some (cls c)
          · rw [if_pos ⟨hg.1, hg.2, by simp⟩, if_pos hg]
            simp
          · rw [if_neg (fun h => hg ⟨h.1, h.2.1⟩), if_neg hg]
            simp
        · exact absurd h.2 (by simp)
theorem words_toks (s : List UInt8) : wordsGo [] 0 s = toks s := by
  rcases wordsGo_toks s [] 0 with h | h
  · rw [h]; simp
  · exact absurd rfl h.1
theorem take_run (p : UInt8 → Bool) : ∀ l : List UInt8, ∀ x ∈ l.take (runLen p l), p x = true
  | [], x, h => by simp at h
  | c :: r, x, h => by
    rw [runLen] at h
    by_cases hp : p c = true
    · rw [if_pos hp, List.take_succ_cons] at h
      rcases List.mem_cons.1 h with rfl | h
      · exact hp
      · exact take_run p r x h
    · rw [if_neg hp] at h; simp at h
def okT (t : Tok) : Prop := (∃ c r, t = c :: r ∧ cls c = 2) → ∀ c ∈ t, cls c = 2
theorem toks_ok : ∀ (n : Nat) (s : List UInt8), s.length ≤ n → ∀ t ∈ toks s, okT t
  | _, [], _, t, h => by simp [toks] at h
  | 0, c :: r, hn, t, h => by simp at hn
  | n + 1, c :: r, hn, t, h => by
    have hr : r.length ≤ n := by simpa using hn
    by_cases hb : c = 32
    · rw [toks, if_pos hb] at h; exact toks_ok n r hr t h
    by_cases h0 : cls c = 0
    · rw [toks_one r h0 hb] at h
      rcases List.mem_cons.1 h with rfl | h
      · rintro ⟨c', r', e, h2⟩; injection e with e1; subst e1; omega
      · exact toks_ok n r hr t h
    · have hrun := toks_run (cls c) h0 r c rfl
      rw [hrun] at h
      rcases List.mem_cons.1 h with rfl | h
      · rintro ⟨c', r', e, h2⟩ x hx
        have hall := take_run (fun d => decide (cls d = cls c)) (c :: r)
        have h3 := hall c' (by rw [e]; simp)
        have h4 := hall x hx
        simp at h3 h4
        omega
      · refine toks_ok n _ ?_ t h
        rw [List.length_drop, runLen, if_pos (decide_eq_true rfl)]
        simp; omega
end Go.Proofs.YtdmkghgachapaabGreatDoor

set_option linter.unusedSimpArgs false
namespace Go.Proofs.YtdmkghgachapaabGreatDoor
set_option linter.unusedVariables false
def isLet (t : Tok) : Bool := match t with
  | [] => false
  | c :: _ => decide (97 ≤ c.toNat ∧ c.toNat ≤ 122)
def needP (w : Tok) (l : List Tok) : Res (List Tok) := if hd l = w then .good l.tail else .bad 4
def wordP (l : List Tok) : Res (Tok × List Tok) := if isLet (hd l) = true then .good (hd l, l.tail) else .bad 4
def signP (l : List Tok) : Res (Int × List Tok) := if hd l = [45] then (natP l.tail).bind fun p => .good (-p.1, p.2) else natP l
abbrev PMon := Tok × Int × Int
def monP (l : List Tok) : Res (PMon × List Tok) :=
  (wordP l).bind fun p => (signP p.2).bind fun q => if hd q.2 = [] then .good ((p.1, q.1, q.1), q.2) else (signP q.2).bind fun s => .good ((p.1, q.1, s.1), s.2)
structure PRule where
  nm : Tok
  ep : Int
  cy : Int
  lp : Tree
  ms : List PMon
def rule0 : PRule := ⟨[], 0, 0, .node 0 0 [], []⟩
def kCal : Tok := [99, 97, 108, 101, 110, 100, 97, 114]
def kEp : Tok := [101, 112, 111, 99, 104]
def kCy : Tok := [99, 121, 99, 108, 101]
def kLeap : Tok := [108, 101, 97, 112]
def kMonth : Tok := [109, 111, 110, 116, 104]
def kOf (i : Nat) : Tok := match i with
  | 0 => kCal
  | 1 => kEp
  | 2 => kCy
  | 3 => kLeap
  | _ => kMonth
def restP (f i : Nat) (l : List Tok) (t : PRule) : Res (PRule × List Tok) := match i with
  | 0 => (wordP l).bind fun p => .good ({ t with nm := p.1 }, p.2)
  | 1 => (signP l).bind fun p => .good ({ t with ep := p.1 }, p.2)
  | 2 => (signP l).bind fun p => .good ({ t with cy := p.1 }, p.2)
  | 3 => (expP f 0 l 0).bind fun p => .good ({ t with lp := p.1 }, p.2)
  | _ => (monP l).bind fun p => .good ({ t with ms := t.ms ++ [p.1] }, p.2)
def rowP (f i : Nat) (l : List Tok) (t : PRule) : Res PRule :=
  (needP (kOf i) l).bind fun l => (restP f i l t).bind fun p => if hd p.2 = [] then .good p.1 else .bad 4
def linesOf : List UInt8 → List (List UInt8)
  | [] => []
  | c :: r => if c = 10 then [] :: linesOf r else match linesOf r with
    | [] => [[c]]
    | t :: ts => (c :: t) :: ts
def linesP (f : Nat) : Nat → List (List UInt8) → PRule → Nat × Res PRule
  | i, [], t => (i, .good t)
  | i, s :: r, t => match rowP f i (toks s) t with
    | .good t' => linesP f (i + 1) r t'
    | .bad e => (i, .bad e)
    | .stuck => (i, .stuck)
def parseP (f : Nat) (s : List UInt8) : Res (Nat × Int ⊕ PRule) :=
  if 4000 < s.length then .good (.inl (0, 2)) else
  match linesP f 0 (linesOf s) rule0 with
  | (i, .stuck) => .stuck
  | (i, .bad e) => .good (.inl (i, e))
  | (i, .good t) => if i < 4 then .good (.inl (i, 4)) else
    if ruleErr ⟨t.nm.toArray⟩ t.ep t.cy t.lp (t.ms.map fun m => (⟨m.1.toArray⟩, m.2.1, m.2.2)) ≠ 0 then .good (.inl (0, ruleErr ⟨t.nm.toArray⟩ t.ep t.cy t.lp (t.ms.map fun m => (⟨m.1.toArray⟩, m.2.1, m.2.2)))) else .good (.inr t)
end Go.Proofs.YtdmkghgachapaabGreatDoor
