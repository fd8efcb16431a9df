/- Contracts of numeral.digits, numeral.write and numeral.Write. -/
import Derived.Test.YticflmepmmdnfabDoorNml5
import Derived.Test.YticflmepmmdnfabDoorLayMap
import Derived.Lib.LaidTab
namespace Go.Proofs.YticflmepmmdnfabDoor
set_option linter.unusedVariables false
set_option linter.unusedSimpArgs false
set_option maxRecDepth 100000
open Go.RowKit Go.Shelf Nml

def zerosZ : List Int := [48, 1632, 1776, 2406, 2534, 3664, 3872, 6112, 65296]
/-- The program's table of the digits 0. -/
def Zer (w : World) : Prop := Lib.TabIs Tryd.prog w "ephemeris/numeral.zeros" .i32 zerosZ
theorem Zer.below {w w' : World} (h : Zer w) (hb : Below w.heap.size w w') : Zer w' := var_below h hb
theorem Zer.cell {w : World} (h : Zer w) (k : Nat) (hk : k < 9) : w.cell? ⟨0, k, none⟩ = some (.int .i32 (zeroOf k)) := by
  have := Lib.TabIs.cell h (g := 0) (by kernel_rfl) k (show k < 9 from hk)
  have h2 : k = 0 ∨ k = 1 ∨ k = 2 ∨ k = 3 ∨ k = 4 ∨ k = 5 ∨ k = 6 ∨ k = 7 ∨ k = 8 := by omega
  clear hk
  rcases h2 with rfl | rfl | rfl | rfl | rfl | rfl | rfl | rfl | rfl <;> exact this
def Utf (w : World) : Prop := Lib.Utf8Tabs 3 4 w
theorem extraMap : Builder.Extra Tryd.prog Tryd.laysn230_ren where
  sizeBuilder := by kernel_rfl
  liesBuilder := by kernel_rfl
  t5 := Tryd.underlying5
  a5 := Tryd.isAgg5
  z5 := Tryd.sizeOf5
  v5 := Tryd.zeroValue5
  infoByte := by kernel_rfl
  cellsByte := by kernel_rfl
  sizeByte := by kernel_rfl
  neB5 := by decide
theorem zero_bounds (k : Nat) : 48 ≤ zeroOf k ∧ zeroOf k ≤ 65296 := by
  by_cases hk : k < 9
  · have h2 : k = 0 ∨ k = 1 ∨ k = 2 ∨ k = 3 ∨ k = 4 ∨ k = 5 ∨ k = 6 ∨ k = 7 ∨ k = 8 := by omega
    clear hk
    rcases h2 with rfl | rfl | rfl | rfl | rfl | rfl | rfl | rfl | rfl <;> decide
  · have : zeroOf k = 48 := by unfold zeroOf zeros; rw [List.getD_eq_getElem?_getD, List.getElem?_eq_none (by simp; omega)]; rfl
    omega
set_option maxHeartbeats 4000000 in
theorem num_digit1 (k B x : Nat) (W : World) (hk : k < 9) (hx : x ≤ 1114111) (hB : W.cell? ⟨B, 0, none⟩ = some (.int .i64 (k : Int))) (hz : Zer W) :
    Calls Tryd.prog 40 #[.int .i32 (x : Int), .pointer (some ⟨B, 0, none⟩)] W fun e w' => e = .returned (.int .i32 (mapF (zeroOf k) x)) ∧ ∃ q, w' = W.drewN q := by
  have hc := hz.cell k hk
  obtain ⟨z1, z2⟩ := zero_bounds k
  have HM := Lib.hid (show ∀ y : Int, mapF (zeroOf k) y = if y = 45 then 45 else (zeroOf k : Int) + y - 48 from fun y => rfl)
  generalize zeroOf k = Z at *
  clear hz
  have k1 : (k : Int) < 9 := by omega
  by_cases h : x = 45
  · subst h
    go_enter Tryd.func40, Tryd.ntmps40
    go_wp2_with fail
    go_ret
    exact ⟨by rw [HM.out]; rfl, 0, rfl⟩
  · have d1 : ((x : Int) == 45) = false := by simp; omega
    have w1 : IntKind.i32.wrap ((Z : Int) + (x : Int)) = (Z : Int) + x := IntWalk.i32_in _ (by omega)
    have w2 : IntKind.i32.wrap ((Z : Int) + (x : Int) - 48) = (Z : Int) + x - 48 := IntWalk.i32_in _ (by omega)
    go_enter Tryd.func40, Tryd.ntmps40
    go_wp2_with fail
    go_ret
    exact ⟨by rw [HM.out, if_neg (by omega)]; rfl, 0, rfl⟩
set_option maxHeartbeats 4000000 in
theorem num_digits (k : Nat) (l : List UInt8) (w : World) (hk : k < 9) (hl : l.length ≤ 1000) (ha : ∀ c ∈ l, c.toNat < 128) (hz : Zer w) (hu : Utf w) :
    Calls Tryd.prog 20 #[.int .i64 (k : Int), .string ⟨l.toArray⟩] w fun e w' => e = .returned (.string ⟨(posL (zeroOf k) l).toArray⟩) ∧ Below w.heap.size w w' := by
  have HZ := Lib.hid hz; have HU := Lib.hid hu
  have CM := Lib.hid (fun (W1 : World) (hB : W1.cell? ⟨w.heap.size, 0, none⟩ = some (.int .i64 (k : Int))) (hlt : w.heap.size < W1.heap.size) (hb : Below w.heap.size w W1) => by
    have e0 : (⟨l.toArray⟩ : ByteArray).size = l.length := by show l.toArray.size = _; simp
    have hs : (⟨l.toArray⟩ : ByteArray).size < 35184372088832 := by omega
    have := Any.strings_Map_runes { Tryd.laysn230 with } extraMap 40 #[.pointer (some ⟨w.heap.size, 0, none⟩)] (enters_of Tryd.func40 (by kernel_rfl) rfl) (mapF (zeroOf k)) ⟨l.toArray⟩ W1 hs
      (fun W x hx hW => num_digit1 k w.heap.size x W hk hx ((hW.cell (show (⟨w.heap.size, 0, none⟩ : Addr).block < W1.heap.size from hlt)).trans hB) ((HZ.out.below hb).below hW))
      (fun x hx => by
        obtain ⟨z1, z2⟩ := zero_bounds k
        unfold mapF
        split <;> omega)
      (Utf8Tabs_below HU.out hb)
    rw [show (⟨l.toArray⟩ : ByteArray).data.toList = l from rfl, mapD_pos _ (zero_bounds k).1 l ha] at this
    exact this)
  go_enter Tryd.func20, Tryd.ntmps20
  go_wp2_with fail
  have o0 := One.new w (.cells #[.int .i64 (k : Int)] 3)
  generalize World.alloc w _ = W0 at o0 ⊢
  refine (CM.out W0 (o0.1.cell 0) o0.1.lt o0.2).mono ?_
  rintro e w1 ⟨rfl, b1⟩
  have B1 := Lib.hid (below_then o0.2 b1); clear b1
  go_wp2_with fail
  go_ret
  exact ⟨rfl, B1.out⟩
end Go.Proofs.YticflmepmmdnfabDoor
