/- NumeralWrites: the Go text returns true at every input, and writes nothing that was there. -/
import Derived.Test.YticflmepmmdnfabDoorRows
import Derived.Test.YticflmepmmdnfabDoorNml13
import Derived.Test.YticflmepmmdnfabDoorNmlLaid
namespace Go.Proofs.YticflmepmmdnfabDoor.numeralWritesLaw
set_option linter.unusedVariables false
set_option linter.unusedSimpArgs false
set_option maxRecDepth 100000
open Go.RowKit Go.ChangeShapes Go.WideShapes Go.Shelf Nml

theorem litX : wrX 9 1949 = [77, 67, 77, 88, 76, 73, 88] ∧ wrE 9 1949 = 0 := by decide +kernel
theorem num_Scripts (w : World) : Calls Tryd.prog 11 #[] w fun e w' => e = .returned (.int .i64 13) ∧ w = w' := by
  go_enter Tryd.func11, Tryd.ntmps11
  go_wp2_with fail
  go_ret
  exact ⟨rfl, rfl⟩
set_option maxHeartbeats 4000000 in
theorem core (s n : Int) (w : World) (hz : Zer w) (hu : Utf w) (hp : Pow w) :
    Calls Tryd.prog 4 #[.int .i64 s, .int .i64 n] w fun e w' => e = .returned (.bool true) ∧ Below w.heap.size w w' := by
  have HZ := Lib.hid hz; have HU := Lib.hid hu; have HP := Lib.hid hp
  clear hz hu hp
  have C1 := Lib.hid (num_Write 9 1949 w HZ.out HU.out HP.out)
  have C2 := fun W (hb : Below w.heap.size w W) => num_Write s n W (HZ.out.below hb) (Utf8Tabs_below HU.out hb) (HP.out.below hb)
  by_cases hs : inB 0 12 s = true
  · have CR := Lib.hid (fun W => ref_NumeralRange s W (by unfold inB at hs; simp at hs; omega) (by unfold inB at hs; simp at hs; omega))
    have hin : inB (lowS s) (highS s) n = inS s n := by unfold inB inS; simp
    by_cases hn : inS s n = true
    · have e1 : wrX s n = numT s n := by unfold wrX; rw [if_neg (by rw [hs]; simp), if_neg (by rw [hn]; simp)]
      have e2 : wrE s n = 0 := by unfold wrE; rw [if_neg (by rw [hs]; simp), if_neg (by rw [hn]; simp)]
      rw [e1, e2] at C2
      have CT := Lib.hid (fun W (hb : Below w.heap.size w W) => ref_NumeralText s n W hs hn (HP.out.below hb))
      have C2 := Lib.hid C2
      have HS := Lib.hid hs; have HIN := Lib.hid (hin.trans hn)
      generalize numT s n = T at *
      clear hs hin hn e1 e2
      go_enter Tryd.func4, Tryd.ntmps4
      go_wp2_with fail
      refine C1.out.mono ?_
      rw [litX.1, litX.2]
      rintro e w1 ⟨rfl, b⟩
      have B1 := Lib.hid b; clear b
      go_wp2_with fail
      refine (num_Scripts _).mono ?_
      rintro e w2 ⟨rfl, rfl⟩
      go_wp2_with fail
      refine (C2.out _ B1.out).mono ?_
      rintro e w3 ⟨rfl, b⟩
      have B3 := Lib.hid (below_then B1.out b); clear b
      go_wp2_with fail
      refine (ref_In _ _ _ _).mono ?_
      rw [HS.out]
      rintro e w4 ⟨rfl, rfl⟩
      go_wp2_with fail
      refine (CR.out _).mono ?_
      rintro e w5 ⟨rfl, rfl⟩
      go_wp2_with fail
      refine (ref_In _ _ _ _).mono ?_
      rw [HIN.out]
      rintro e w6 ⟨rfl, rfl⟩
      go_wp2_with fail
      refine (CT.out _ B3.out).mono ?_
      rintro e w7 ⟨rfl, b⟩
      have B7 := Lib.hid (below_then B3.out b); clear b
      go_wp2_with fail
      go_ret
      exact ⟨ret_bool (by simp), B7.out⟩
    · have hn' : inS s n = false := by simpa using hn
      have e1 : wrX s n = [] := by unfold wrX; rw [if_neg (by rw [hs]; simp), if_pos hn']
      have e2 : wrE s n = 3 := by unfold wrE; rw [if_neg (by rw [hs]; simp), if_pos hn']
      rw [e1, e2] at C2
      have C2 := Lib.hid C2
      have HS := Lib.hid hs; have HIN := Lib.hid (hin.trans hn')
      clear hs hin hn hn' e1 e2
      go_enter Tryd.func4, Tryd.ntmps4
      go_wp2_with fail
      refine C1.out.mono ?_
      rw [litX.1, litX.2]
      rintro e w1 ⟨rfl, b⟩
      have B1 := Lib.hid b; clear b
      go_wp2_with fail
      refine (num_Scripts _).mono ?_
      rintro e w2 ⟨rfl, rfl⟩
      go_wp2_with fail
      refine (C2.out _ B1.out).mono ?_
      rintro e w3 ⟨rfl, b⟩
      have B3 := Lib.hid (below_then B1.out b); clear b
      go_wp2_with fail
      refine (ref_In _ _ _ _).mono ?_
      rw [HS.out]
      rintro e w4 ⟨rfl, rfl⟩
      go_wp2_with fail
      refine (CR.out _).mono ?_
      rintro e w5 ⟨rfl, rfl⟩
      go_wp2_with fail
      refine (ref_In _ _ _ _).mono ?_
      rw [HIN.out]
      rintro e w6 ⟨rfl, rfl⟩
      go_wp2_with fail
      go_ret
      exact ⟨ret_bool (by simp), B3.out⟩
  · have hs' : inB 0 12 s = false := by simpa using hs
    have e1 : wrX s n = [] := by unfold wrX; rw [if_pos hs']
    have e2 : wrE s n = 1 := by unfold wrE; rw [if_pos hs']
    rw [e1, e2] at C2
    have C2 := Lib.hid C2
    have HS := Lib.hid hs'
    clear hs hs' e1 e2
    go_enter Tryd.func4, Tryd.ntmps4
    go_wp2_with fail
    refine C1.out.mono ?_
    rw [litX.1, litX.2]
    rintro e w1 ⟨rfl, b⟩
    have B1 := Lib.hid b; clear b
    go_wp2_with fail
    refine (num_Scripts _).mono ?_
    rintro e w2 ⟨rfl, rfl⟩
    go_wp2_with fail
    refine (C2.out _ B1.out).mono ?_
    rintro e w3 ⟨rfl, b⟩
    have B3 := Lib.hid (below_then B1.out b); clear b
    go_wp2_with fail
    refine (ref_In _ _ _ _).mono ?_
    rw [HS.out]
    rintro e w4 ⟨rfl, rfl⟩
    go_wp2_with fail
    go_ret
    exact ⟨ret_bool (by simp), B3.out⟩
theorem walk {H : Type} {enc : TypeId × Value → H} {v0 v1 : Value} {d0 d1 : DataW H} {p0 p1 : List MemPlace} {base : Nat} (W : World)
    (o0 : Value.okWide Tryd.prog W .any base 3 v0) (h0 : DataW.Trod enc Tryd.prog W 0 (fun _ => true) true 3 v0 d0 p0)
    (o1 : Value.okWide Tryd.prog W .any base 3 v1) (h1 : DataW.Trod enc Tryd.prog W 0 (fun _ => true) true 3 v1 d1 p1) (hL : laidMet Tryd.prog Rows.numeralWritesRow.laid W) :
    Calls Tryd.prog 4 #[v0, v1] W fun e W' => e = .returned (.bool true) ∧ Below W.heap.size W W' := by
  obtain ⟨x, rfl, rfl, rfl, wx⟩ := open_int Tryd.underlying3 o0 h0
  obtain ⟨y, rfl, rfl, rfl, wy⟩ := open_int Tryd.underlying3 o1 h1
  exact core x y W (laid_zer hL) (laid_utf hL) (laid_pow pow_data.symm hL.tail.tail)
end Go.Proofs.YticflmepmmdnfabDoor.numeralWritesLaw
