/- Contracts of the reference's NumeralText, in every script. -/
import Derived.Test.YticflmepmmdnfabDoorNml10
import Derived.Test.YticflmepmmdnfabDoorNml11
namespace Go.Proofs.YticflmepmmdnfabDoor
set_option linter.unusedVariables false
set_option linter.unusedSimpArgs false
set_option maxRecDepth 100000
open Go.RowKit Go.Shelf Nml

theorem ref_NumeralText (s n : Int) (w : World) (hs : inB 0 12 s = true) (hn : inS s n = true) (hp : Pow w) :
    Calls Tryd.prog 13 #[.int .i64 s, .int .i64 n] w fun e w' => e = .returned (.string ⟨(numT s n).toArray⟩) ∧ Below w.heap.size w w' := by
  obtain ⟨b1, b2, b9, b10, b12⟩ := inS_bounds hn
  have hs2 : 0 ≤ s ∧ s ≤ 12 := by unfold inB at hs; simpa using hs
  unfold numT
  by_cases h9 : s = 9
  · obtain ⟨c1, c2⟩ := b9 h9
    rw [if_pos h9, h9, rom_ref n.toNat (by omega)]
    have := ref_NumeralText9 n.toNat w (by omega)
    rwa [show ((n.toNat : Nat) : Int) = n by omega] at this
  rw [if_neg h9]
  by_cases h10 : s = 10
  · obtain ⟨c1, c2⟩ := b10 (.inl h10)
    rw [if_pos h10, h10, sigG_ref n.toNat (by omega)]
    have := ref_NumeralText10 n.toNat w (by omega)
    rwa [show ((n.toNat : Nat) : Int) = n by omega] at this
  rw [if_neg h10]
  by_cases h11 : s = 11
  · obtain ⟨c1, c2⟩ := b10 (.inr h11)
    rw [if_pos h11, h11, sigH_ref n.toNat (by omega)]
    have := ref_NumeralText11 n.toNat w (by omega)
    rwa [show ((n.toNat : Nat) : Int) = n by omega] at this
  rw [if_neg h11]
  by_cases h12 : s = 12
  · obtain ⟨c1, c2⟩ := b12 h12
    rw [if_pos h12, h12, ch_ref n.toNat (by omega)]
    exact ref_NumeralTextC n w c1 c2
  rw [if_neg h12]
  have := ref_NumeralTextP s.toNat n w (by omega) b1 b2 hp
  rwa [show ((s.toNat : Nat) : Int) = s by omega] at this
end Go.Proofs.YticflmepmmdnfabDoor
