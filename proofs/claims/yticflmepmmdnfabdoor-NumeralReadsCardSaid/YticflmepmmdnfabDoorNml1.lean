/- Numerals in positional scripts, plain. No model in this text. -/
import Derived.Test.YticflmepmmdnfabDoorNml0
namespace Go.Proofs.YticflmepmmdnfabDoor.Nml
set_option linter.unusedVariables false
set_option linter.unusedSimpArgs false
open Go.Lib

/-- The digits of a positional script. -/
def zeros : List Nat := [0x30, 0x660, 0x6f0, 0x966, 0x9e6, 0xe50, 0xf20, 0x17e0, 0xff10]
def zeroOf (s : Nat) : Nat := zeros.getD s 48
def enc1 (z : Nat) (c : UInt8) : List UInt8 := if c = 45 then [45] else encodeRune ((z : Int) + c.toNat - 48)
def posL (z : Nat) (l : List UInt8) : List UInt8 := l.flatMap (enc1 z)
def padL (width : Nat) (l : List UInt8) : List UInt8 := List.replicate (width - l.length) 48 ++ l
/-- A number with leading zeros, in decimal digits. -/
def padT (n : Int) (width : Nat) : List UInt8 := (if n < 0 then [45] else []) ++ padL width (decDigits n.natAbs)
theorem posL_app (z : Nat) (a b : List UInt8) : posL z (a ++ b) = posL z a ++ posL z b := by simp [posL]

theorem mapD_ascii (f : Int → Int) : ∀ l : List UInt8, (∀ c ∈ l, c.toNat < 128) → mapD f l = l.flatMap fun c => if 0 ≤ f c.toNat then encodeRune (f c.toNat) else []
  | [], _ => rfl
  | c :: r, h => by
    have hc := decodeL_ascii c r (h c (by simp))
    rw [mapD_step f (c :: r) (by simp), hc, List.flatMap_cons, ← mapD_ascii f r (fun x hx => h x (by simp [hx]))]
    rfl
theorem dd_ascii (u : Nat) : ∀ c ∈ decDigits u, c.toNat < 128 := fun c hc => by
  have := Num.dd_dig u c hc; unfold Num.isDig at this; simp at this; omega
theorem itoa_ascii (n : Int) : ∀ c ∈ itoa n, c.toNat < 128 := by
  intro c hc
  unfold itoa at hc
  split at hc
  · rcases List.mem_cons.1 hc with rfl | hc
    · decide
    · exact dd_ascii _ c hc
  · exact dd_ascii _ c hc
/-- The function of the program's digits. -/
def mapF (z : Nat) (x : Int) : Int := if x = 45 then 45 else z + x - 48
theorem mapD_pos (z : Nat) (hz : 48 ≤ z) (l : List UInt8) (h : ∀ c ∈ l, c.toNat < 128) : mapD (mapF z) l = posL z l := by
  rw [mapD_ascii _ _ h]
  unfold posL
  congr 1; funext c
  unfold mapF enc1
  by_cases hc : c = 45
  · subst hc
    have h45 : ((45 : UInt8).toNat : Int) = 45 := rfl
    simp only [h45, if_true, show (0 : Int) ≤ 45 by decide]; rfl
  · have : ¬ (c.toNat : Int) = 45 := by
      intro e; apply hc
      have : UInt8.ofNat c.toNat = UInt8.ofNat 45 := by rw [show c.toNat = 45 by omega]
      simpa using this
    rw [if_neg this, if_neg hc, if_pos (by omega)]
end Go.Proofs.YticflmepmmdnfabDoor.Nml
