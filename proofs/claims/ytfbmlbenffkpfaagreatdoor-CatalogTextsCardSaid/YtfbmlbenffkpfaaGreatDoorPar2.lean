/- Texts of rules, plain: the lines of a rule and the whole text. -/
import Derived.Test.YtfbmlbenffkpfaaGreatDoorPar1
import Derived.Test.YtfbmlbenffkpfaaGreatDoorTree1
namespace Go.Proofs.YtfbmlbenffkpfaaGreatDoor
set_option linter.unusedVariables false

def isLet (t : Tok) : Bool := match t with
  | [] => false
  | c :: _ => decide (97 ≤ c.toNat ∧ c.toNat ≤ 122)
def needP (w : Tok) (l : List Tok) : Res (List Tok) := if hd l = w then .good l.tail else .bad 4
def wordP (l : List Tok) : Res (Tok × List Tok) := if isLet (hd l) = true then .good (hd l, l.tail) else .bad 4
def signP (l : List Tok) : Res (Int × List Tok) := if hd l = [45] then (natP l.tail).bind fun p => .good (-p.1, p.2) else natP l
abbrev PMon := Tok × Int × Int
def monP (l : List Tok) : Res (PMon × List Tok) :=
  (wordP l).bind fun p => (signP p.2).bind fun q => if hd q.2 = [] then .good ((p.1, q.1, q.1), q.2) else (signP q.2).bind fun s => .good ((p.1, q.1, s.1), s.2)
structure PRule where
  nm : Tok
  ep : Int
  cy : Int
  lp : Tree
  ms : List PMon
def rule0 : PRule := ⟨[], 0, 0, .node 0 0 [], []⟩
def kCal : Tok := [99, 97, 108, 101, 110, 100, 97, 114]
def kEp : Tok := [101, 112, 111, 99, 104]
def kCy : Tok := [99, 121, 99, 108, 101]
def kLeap : Tok := [108, 101, 97, 112]
def kMonth : Tok := [109, 111, 110, 116, 104]
def kOf (i : Nat) : Tok := match i with
  | 0 => kCal
  | 1 => kEp
  | 2 => kCy
  | 3 => kLeap
  | _ => kMonth
/-- A line's own part behind its first word. -/
def restP (f i : Nat) (l : List Tok) (t : PRule) : Res (PRule × List Tok) := match i with
  | 0 => (wordP l).bind fun p => .good ({ t with nm := p.1 }, p.2)
  | 1 => (signP l).bind fun p => .good ({ t with ep := p.1 }, p.2)
  | 2 => (signP l).bind fun p => .good ({ t with cy := p.1 }, p.2)
  | 3 => (expP f 0 l 0).bind fun p => .good ({ t with lp := p.1 }, p.2)
  | _ => (monP l).bind fun p => .good ({ t with ms := t.ms ++ [p.1] }, p.2)
def rowP (f i : Nat) (l : List Tok) (t : PRule) : Res PRule :=
  (needP (kOf i) l).bind fun l => (restP f i l t).bind fun p => if hd p.2 = [] then .good p.1 else .bad 4
/-- The lines of a text; the empty piece behind the last end of a line is none. -/
def linesOf : List UInt8 → List (List UInt8)
  | [] => []
  | c :: r => if c = 10 then [] :: linesOf r else match linesOf r with
    | [] => [[c]]
    | t :: ts => (c :: t) :: ts
def linesP (f : Nat) : Nat → List (List UInt8) → PRule → Nat × Res PRule
  | i, [], t => (i, .good t)
  | i, s :: r, t => match rowP f i (toks s) t with
    | .good t' => linesP f (i + 1) r t'
    | .bad e => (i, .bad e)
    | .stuck => (i, .stuck)
/-- What Parse returns: the rule, or a line and an error. -/
def parseP (f : Nat) (s : List UInt8) : Res (Nat × Int ⊕ PRule) :=
  if 4000 < s.length then .good (.inl (0, 2)) else
  match linesP f 0 (linesOf s) rule0 with
  | (i, .stuck) => .stuck
  | (i, .bad e) => .good (.inl (i, e))
  | (i, .good t) => if i < 4 then .good (.inl (i, 4)) else
    if ruleErr ⟨t.nm.toArray⟩ t.ep t.cy t.lp (t.ms.map fun m => (⟨m.1.toArray⟩, m.2.1, m.2.2)) ≠ 0 then .good (.inl (0, ruleErr ⟨t.nm.toArray⟩ t.ep t.cy t.lp (t.ms.map fun m => (⟨m.1.toArray⟩, m.2.1, m.2.2)))) else .good (.inr t)
end Go.Proofs.YtfbmlbenffkpfaaGreatDoor
