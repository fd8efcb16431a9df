/- NumeralPads: the Go text returns true at every input, and writes nothing that was there. -/
import Derived.Test.YticflmepmmdnfabDoorRows
import Derived.Test.YticflmepmmdnfabDoorNml14
import Derived.Test.YticflmepmmdnfabDoorNmlLaid
namespace Go.Proofs.YticflmepmmdnfabDoor.numeralPadsLaw
set_option linter.unusedVariables false
set_option linter.unusedSimpArgs false
set_option maxRecDepth 100000
open Go.RowKit Go.ChangeShapes Go.WideShapes Go.Shelf Nml

theorem litX : padX 0 (-5) 3 = [45, 48, 48, 53] ∧ padE 0 (-5) 3 = 0 := by
  have e : Lib.decDigits 5 = [53] := Num.dd_one 5 (by omega)
  constructor
  · unfold padX
    rw [if_neg (by decide), if_neg (by decide)]
    unfold padT padL
    rw [show (-5 : Int).natAbs = 5 from rfl, e]
    decide +kernel
  · decide +kernel
set_option maxHeartbeats 4000000 in
theorem core (s n wd : Int) (w : World) (hz : Zer w) (hu : Utf w) (hp : Pow w) :
    Calls Tryd.prog 3 #[.int .i64 s, .int .i64 n, .int .i64 wd] w fun e w' => e = .returned (.bool true) ∧ Below w.heap.size w w' := by
  have HZ := Lib.hid hz; have HU := Lib.hid hu; have HP := Lib.hid hp
  clear hz hu hp
  have C1 := num_Pad 0 (-5) 3 w HZ.out HU.out HP.out
  have C2 := fun W (hb : Below w.heap.size w W) => num_Pad s n wd W (HZ.out.below hb) (Utf8Tabs_below HU.out hb) (HP.out.below hb)
  unfold PadPost at C1 C2
  rw [litX.1, litX.2] at C1
  have C1 := Lib.hid C1
  by_cases hs : inB 0 8 s = true
  · by_cases hw : inB 0 12 wd = true
    · have hsw : ¬ ((inB 0 8 s && inB 0 12 wd) = false) := by rw [hs, hw]; simp
      obtain ⟨s0, s1⟩ := inB_iff.1 hs
      obtain ⟨w0, w1⟩ := inB_iff.1 hw
      have hin : inB (-2147483647) 2147483647 n = inS s n := by
        unfold inB inS lowS highS
        rw [if_neg (by omega), if_neg (by omega), if_neg (by omega), if_neg (by omega), if_neg (by omega), if_neg (by omega)]
        simp
      by_cases hn : inS s n = true
      · have e1 : padX s n wd = posL (zeroOf s.toNat) (padT n wd.toNat) := by unfold padX; rw [if_neg hsw, if_neg (by rw [hn]; simp)]
        have e2 : padE s n wd = 0 := by unfold padE; rw [if_neg hsw, if_neg (by rw [hn]; simp)]
        rw [e1, e2] at C2
        obtain ⟨b1, b2, -, -, -⟩ := inS_bounds hn
        have CT := fun W (hb : Below w.heap.size w W) => ref_NumeralPad s.toNat n wd W (by omega) b1 b2 w0 w1 (HP.out.below hb)
        rw [show ((s.toNat : Nat) : Int) = s by omega] at CT
        have CT := Lib.hid CT
        have C2 := Lib.hid C2
        have HS := Lib.hid hs; have HW := Lib.hid hw; have HIN := Lib.hid (hin.trans hn)
        generalize posL (zeroOf s.toNat) (padT n wd.toNat) = T at *
        clear hs hw hsw s0 s1 w0 w1 hin hn e1 e2 b1 b2
        go_enter Tryd.func3, Tryd.ntmps3
        go_wp2_with fail
        refine C1.out.mono ?_
        rintro e w1 ⟨rfl, b⟩
        have B1 := Lib.hid b; clear b
        go_wp2_with fail
        refine (C2.out _ B1.out).mono ?_
        rintro e w3 ⟨rfl, b⟩
        have B3 := Lib.hid (below_then B1.out b); clear b
        go_wp2_with fail
        refine (ref_In _ _ _ _).mono ?_
        rw [HS.out]
        rintro e w4 ⟨rfl, rfl⟩
        go_wp2_with fail
        refine (ref_In _ _ _ _).mono ?_
        rw [HW.out]
        rintro e w5 ⟨rfl, rfl⟩
        go_wp2_with fail
        refine (ref_Num _ _).mono ?_
        rw [HIN.out]
        rintro e w6 ⟨rfl, rfl⟩
        go_wp2_with fail
        refine (CT.out _ B3.out).mono ?_
        rintro e w7 ⟨rfl, b⟩
        have B7 := Lib.hid (below_then B3.out b); clear b
        go_wp2_with fail
        go_ret
        exact ⟨ret_bool (by simp), B7.out⟩
      · have hn' : inS s n = false := by simpa using hn
        have e1 : padX s n wd = [] := by unfold padX; rw [if_neg hsw, if_pos hn']
        have e2 : padE s n wd = 3 := by unfold padE; rw [if_neg hsw, if_pos hn']
        rw [e1, e2] at C2
        have C2 := Lib.hid C2
        have HS := Lib.hid hs; have HW := Lib.hid hw; have HIN := Lib.hid (hin.trans hn')
        clear hs hw hsw s0 s1 w0 w1 hin hn hn' e1 e2
        go_enter Tryd.func3, Tryd.ntmps3
        go_wp2_with fail
        refine C1.out.mono ?_
        rintro e w1 ⟨rfl, b⟩
        have B1 := Lib.hid b; clear b
        go_wp2_with fail
        refine (C2.out _ B1.out).mono ?_
        rintro e w3 ⟨rfl, b⟩
        have B3 := Lib.hid (below_then B1.out b); clear b
        go_wp2_with fail
        refine (ref_In _ _ _ _).mono ?_
        rw [HS.out]
        rintro e w4 ⟨rfl, rfl⟩
        go_wp2_with fail
        refine (ref_In _ _ _ _).mono ?_
        rw [HW.out]
        rintro e w5 ⟨rfl, rfl⟩
        go_wp2_with fail
        refine (ref_Num _ _).mono ?_
        rw [HIN.out]
        rintro e w6 ⟨rfl, rfl⟩
        go_wp2_with fail
        go_ret
        exact ⟨ret_bool (by simp), B3.out⟩
    · have hw' : inB 0 12 wd = false := by simpa using hw
      have hsw : (inB 0 8 s && inB 0 12 wd) = false := by rw [hs, hw']; rfl
      have e1 : padX s n wd = [] := by unfold padX; rw [if_pos hsw]
      have e2 : padE s n wd = 1 := by unfold padE; rw [if_pos hsw]
      rw [e1, e2] at C2
      have C2 := Lib.hid C2
      have HS := Lib.hid hs; have HW := Lib.hid hw'
      clear hs hw hw' hsw e1 e2
      go_enter Tryd.func3, Tryd.ntmps3
      go_wp2_with fail
      refine C1.out.mono ?_
      rintro e w1 ⟨rfl, b⟩
      have B1 := Lib.hid b; clear b
      go_wp2_with fail
      refine (C2.out _ B1.out).mono ?_
      rintro e w3 ⟨rfl, b⟩
      have B3 := Lib.hid (below_then B1.out b); clear b
      go_wp2_with fail
      refine (ref_In _ _ _ _).mono ?_
      rw [HS.out]
      rintro e w4 ⟨rfl, rfl⟩
      go_wp2_with fail
      refine (ref_In _ _ _ _).mono ?_
      rw [HW.out]
      rintro e w5 ⟨rfl, rfl⟩
      go_wp2_with fail
      go_ret
      exact ⟨ret_bool (by simp), B3.out⟩
  · have hs' : inB 0 8 s = false := by simpa using hs
    have hsw : (inB 0 8 s && inB 0 12 wd) = false := by rw [hs']; rfl
    have e1 : padX s n wd = [] := by unfold padX; rw [if_pos hsw]
    have e2 : padE s n wd = 1 := by unfold padE; rw [if_pos hsw]
    rw [e1, e2] at C2
    have C2 := Lib.hid C2
    have HS := Lib.hid hs'
    clear hs hs' hsw e1 e2
    go_enter Tryd.func3, Tryd.ntmps3
    go_wp2_with fail
    refine C1.out.mono ?_
    rintro e w1 ⟨rfl, b⟩
    have B1 := Lib.hid b; clear b
    go_wp2_with fail
    refine (C2.out _ B1.out).mono ?_
    rintro e w3 ⟨rfl, b⟩
    have B3 := Lib.hid (below_then B1.out b); clear b
    go_wp2_with fail
    refine (ref_In _ _ _ _).mono ?_
    rw [HS.out]
    rintro e w4 ⟨rfl, rfl⟩
    go_wp2_with fail
    go_ret
    exact ⟨ret_bool (by simp), B3.out⟩
theorem walk {H : Type} {enc : TypeId × Value → H} {v0 v1 v2 : Value} {d0 d1 d2 : DataW H} {p0 p1 p2 : List MemPlace} {base : Nat} (W : World)
    (o0 : Value.okWide Tryd.prog W .any base 3 v0) (h0 : DataW.Trod enc Tryd.prog W 0 (fun _ => true) true 3 v0 d0 p0)
    (o1 : Value.okWide Tryd.prog W .any base 3 v1) (h1 : DataW.Trod enc Tryd.prog W 0 (fun _ => true) true 3 v1 d1 p1)
    (o2 : Value.okWide Tryd.prog W .any base 3 v2) (h2 : DataW.Trod enc Tryd.prog W 0 (fun _ => true) true 3 v2 d2 p2) (hL : laidMet Tryd.prog Rows.numeralPadsRow.laid W) :
    Calls Tryd.prog 3 #[v0, v1, v2] W fun e W' => e = .returned (.bool true) ∧ Below W.heap.size W W' := by
  obtain ⟨x, rfl, rfl, rfl, wx⟩ := open_int Tryd.underlying3 o0 h0
  obtain ⟨y, rfl, rfl, rfl, wy⟩ := open_int Tryd.underlying3 o1 h1
  obtain ⟨z, rfl, rfl, rfl, wz⟩ := open_int Tryd.underlying3 o2 h2
  exact core x y z W (laid_zer hL) (laid_utf hL) (laid_pow pow_data.symm hL.tail.tail)
end Go.Proofs.YticflmepmmdnfabDoor.numeralPadsLaw
