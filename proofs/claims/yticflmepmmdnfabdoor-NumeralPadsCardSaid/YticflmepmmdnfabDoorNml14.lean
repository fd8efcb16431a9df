/- Contract of the reference's NumeralPad. -/
import Derived.Test.YticflmepmmdnfabDoorNml12
namespace Go.Proofs.YticflmepmmdnfabDoor
set_option linter.unusedVariables false
set_option linter.unusedSimpArgs false
set_option maxRecDepth 100000
open Go.RowKit Go.Shelf Nml

theorem iter_below (w : World) (s : ByteArray) (pos : Nat) : Below w.heap.size w (w.iter s pos) := (Below.refl _ _).alloc (Nat.le_refl _) _
set_option maxHeartbeats 4000000 in
theorem ref_NumeralPad (k : Nat) (n wd : Int) (w : World) (hk : k < 9) (h0 : -2147483647 ≤ n) (h1 : n ≤ 2147483647) (hw0 : 0 ≤ wd) (hw : wd ≤ 12) (hp : Pow w) :
    Calls Tryd.prog 9 #[.int .i64 (k : Int), .int .i64 n, .int .i64 wd] w fun e w' => e = .returned (.string ⟨(posL (zeroOf k) (padT n wd.toNat)).toArray⟩) ∧ Below w.heap.size w w' := by
  have CT := Lib.hid (ref_NumeralTextP k n w hk h0 h1 hp)
  obtain ⟨p1, p2⟩ := pos_itoa k hk n
  have CP := fun W => Any.strings_HasPrefix { Tryd.laysn99 with } ⟨(posL (zeroOf k) (Lib.itoa n)).toArray⟩ ⟨#[45]⟩ W
  have CC := fun W => Any.strings_TrimPrefix { Tryd.laysn101 with } ⟨(posL (zeroOf k) (Lib.itoa n)).toArray⟩ ⟨#[45]⟩ W
  rw [show (⟨(posL (zeroOf k) (Lib.itoa n)).toArray⟩ : ByteArray).data.toList = posL (zeroOf k) (Lib.itoa n) from rfl, show (⟨#[45]⟩ : ByteArray).data.toList = [45] from rfl] at CP CC
  rw [p1] at CP
  rw [p2] at CC
  have lD := dd_len n h0 h1
  have hD := Num.dd_dig n.natAbs
  have HD2 := show padT n wd.toNat = (if n < 0 then [45] else []) ++ (List.replicate (wd.toNat - (Lib.decDigits n.natAbs).length) 48 ++ Lib.decDigits n.natAbs) from rfl
  generalize Lib.decDigits n.natAbs = D at *
  have hZ := enc_pos k 0 hk (by omega)
  have CZ := Lib.hid (fun W => ref_zero k W hk)
  have hrep : ∀ j : Nat, posL (zeroOf k) (List.replicate (j + 1) 48 ++ D) = Lib.encodeRune ((zeroOf k : Int)) ++ posL (zeroOf k) (List.replicate j 48 ++ D) := fun j => by
    rw [List.replicate_succ]
    show posL (zeroOf k) (48 :: (List.replicate j 48 ++ D)) = _
    have : enc1 (zeroOf k) 48 = Lib.encodeRune ((zeroOf k : Int)) := by
      unfold enc1; rw [if_neg (by decide), show ((48 : UInt8).toNat : Int) = 48 from rfl, show (zeroOf k : Int) + 48 - 48 = (zeroOf k : Int) by omega]
    rw [← this]; simp [posL]
  have hdig : ∀ j : Nat, ∀ c ∈ List.replicate j 48 ++ D, Num.isDig c = true := fun j c hc => (List.mem_append.1 hc).elim (fun h => by rw [List.eq_of_mem_replicate h]; decide) (hD c)
  have hcnt := fun j => count_pos k hk _ (hdig j)
  have hplen := fun j => posL_len (zeroOf k) (List.replicate j 48 ++ D)
  have CR := Lib.hid (fun (j : Nat) (W : World) (hj : j ≤ 12) => by
    have hs : (⟨(posL (zeroOf k) (List.replicate j 48 ++ D)).toArray⟩ : ByteArray).size < 9223372036854775807 := by
      have e0 : (⟨(posL (zeroOf k) (List.replicate j 48 ++ D)).toArray⟩ : ByteArray).size = (posL (zeroOf k) (List.replicate j 48 ++ D)).length := by show (posL (zeroOf k) (List.replicate j 48 ++ D)).toArray.size = _; simp
      have := hplen j
      rw [List.length_append, List.length_replicate] at this
      omega
    have := Any.utf8_RuneCountInString { Tryd.laysn195 with } ⟨(posL (zeroOf k) (List.replicate j 48 ++ D)).toArray⟩ W hs
    rw [hcnt j, List.length_append, List.length_replicate] at this
    exact this)
  have hZ2 : Utf8.encode (zeroOf k : Int) = ⟨(Lib.encodeRune (zeroOf k : Int)).toArray⟩ := by have := hZ; rwa [Int.natCast_zero, Int.add_zero] at this
  have hadd : ∀ j : Nat, j ≤ 12 → ∀ W, (Op.stringOp .add (Utf8.encode (zeroOf k : Int)) ⟨(posL (zeroOf k) (List.replicate j 48 ++ D)).toArray⟩).run Tryd.prog W = .ok (.string ⟨(posL (zeroOf k) (List.replicate (j + 1) 48 ++ D)).toArray⟩) W := fun j hj => by
    rw [hZ2]
    refine addL _ _ _ (hrep j).symm ?_
    have := hplen (j + 1)
    rw [List.length_append, List.length_replicate] at this
    omega
  have hadd2 : ∀ j : Nat, j ≤ 12 → ∀ W, (Op.stringOp .add ⟨#[45]⟩ ⟨(posL (zeroOf k) (List.replicate j 48 ++ D)).toArray⟩).run Tryd.prog W = .ok (.string ⟨(45 :: posL (zeroOf k) (List.replicate j 48 ++ D)).toArray⟩) W := fun j hj => by
    refine addL [45] _ _ rfl ?_
    have := hplen j
    rw [List.length_append, List.length_replicate] at this
    simp; omega
  have hfin : ∀ j : Nat, (j = 0 ∨ (j + D.length : Int) ≤ wd) → wd ≤ (j + D.length : Int) → posL (zeroOf k) (padT n wd.toNat) = (if n < 0 then [45] else []) ++ posL (zeroOf k) (List.replicate j 48 ++ D) := fun j g1 g2 => by
    have : wd.toNat - D.length = j := by omega
    rw [HD2, this, posL_app]
    split <;> simp [posL, enc1]
  generalize posL (zeroOf k) (padT n wd.toNat) = ANS at hfin ⊢
  have hP0 : posL (zeroOf k) D = posL (zeroOf k) (List.replicate 0 48 ++ D) := rfl
  rw [hP0] at CC
  generalize posL (zeroOf k) (Lib.itoa n) = PI at CT CP CC
  generalize hPJ : (fun j : Nat => posL (zeroOf k) (List.replicate j 48 ++ D)) = PJ
  have hPJ2 : ∀ j, posL (zeroOf k) (List.replicate j 48 ++ D) = PJ j := fun j => by rw [← hPJ]
  clear hcnt hplen hrep hZ hZ2 hPJ hP0 HD2 hD hdig p1 p2
  rw [hPJ2] at CC
  simp only [hPJ2] at CR hadd hadd2 hfin
  clear hPJ2
  have CC' := Lib.hid CC; have CP' := Lib.hid CP; have HF := Lib.hid hfin; have HA := Lib.hid hadd; have HA2 := Lib.hid hadd2
  clear CC CP hfin hadd hadd2
  generalize zeroOf k = Z at *
  go_enter Tryd.func9, Tryd.ntmps9
  go_wp2_with fail
  refine CT.out.mono ?_
  rintro e w1 ⟨rfl, b⟩
  have B1 := Lib.hid b; clear b CT
  go_wp2_with fail
  refine (CP'.out _).mono ?_
  rintro e w2 ⟨rfl, rfl⟩
  go_wp2_with fail
  refine (CC'.out _).mono ?_
  rintro e w3 ⟨rfl, rfl⟩
  clear CP' CC'
  go_wp2_with fail
  go_loopg [7] 12 (fun gf v wx => ∃ j : Nat, v = .string ⟨(PJ j).toArray⟩ ∧ Below w.heap.size w wx ∧ (j = 0 ∨ (j + D.length : Int) ≤ wd) ∧ (j : Int) + gf = 12)
  case atStart => exact ⟨0, rfl, B1.out, .inl rfl, by omega⟩
  case round =>
    clear B1
    obtain ⟨j, rfl, hb, hj, hg⟩ := hrel
    have HB := Lib.hid hb; clear hb
    have ha := HA.out j (by omega)
    have ha2 := HA2.out j (by omega)
    by_cases hlt : (j : Int) + D.length < wd
    · obtain ⟨g', rfl⟩ : ∃ g', gk = g' + 1 := ⟨gk - 1, by omega⟩
      have hj' : ((j + 1 : Nat) : Int) + D.length ≤ wd := by omega
      clear ha2
      go_wp2_with fail
      refine (CR.out j _ (by omega)).mono ?_
      rintro e w4 ⟨rfl, pos, rfl⟩
      have HB2 := Lib.hid (below_then HB.out (iter_below _ ⟨(PJ j).toArray⟩ pos))
      generalize World.iter _ _ _ = W4 at HB2 ⊢
      have ec : (((j + D.length : Nat) : Int)) = (j : Int) + D.length := by omega
      have d1 : ((j + D.length : Nat) : Int) < wd := by omega
      clear ec
      go_wp2_with fail
      refine (CZ.out _).mono ?_
      rintro e w5 ⟨rfl, b⟩
      have HB3 := Lib.hid (below_then HB2.out b); clear b
      go_wp2_with fail
      go_roundg g'
      case measure => omega
      case rel => exact ⟨j + 1, rfl, HB3.out, .inr hj', by omega⟩
    · have d1 : ¬ ((j + D.length : Nat) : Int) < wd := by omega
      have hf := HF.out j hj (by omega)
      have hj12 : j ≤ 12 := by omega
      clear ha hj hg
      by_cases hneg : n < 0
      · rw [if_pos hneg] at hf
        have HFF := Lib.hid (show ANS = 45 :: PJ j from hf)
        have dn : decide (n < 0) = true := decide_eq_true hneg
        clear hf
        go_wp2_with fail
        refine (CR.out j _ (by omega)).mono ?_
        rintro e w4 ⟨rfl, pos, rfl⟩
        have HB2 := Lib.hid (below_then HB.out (iter_below _ ⟨(PJ j).toArray⟩ pos))
        generalize World.iter _ _ _ = W4 at HB2 ⊢
        go_wp2_with fail
        go_ret
        exact ⟨by rw [HFF.out]; rfl, HB2.out⟩
      · rw [if_neg hneg] at hf
        have HFF := Lib.hid (show ANS = PJ j from hf)
        have dn : decide (n < 0) = false := decide_eq_false hneg
        clear hf
        go_wp2_with fail
        refine (CR.out j _ (by omega)).mono ?_
        rintro e w4 ⟨rfl, pos, rfl⟩
        have HB2 := Lib.hid (below_then HB.out (iter_below _ ⟨(PJ j).toArray⟩ pos))
        generalize World.iter _ _ _ = W4 at HB2 ⊢
        go_wp2_with fail
        go_ret
        exact ⟨by rw [HFF.out]; rfl, HB2.out⟩
end Go.Proofs.YticflmepmmdnfabDoor
