/- Contracts of zonetext.number and zonetext.readOffset, and of the reference's offsetRead. -/
import Derived.Test.YthpiiocncdpimabDoorZrd1
import Derived.Outline
namespace Go.Proofs.YthpiiocncdpimabDoor
set_option linter.unusedVariables false
set_option linter.unusedSimpArgs false
set_option maxRecDepth 100000
open Go.RowKit Go.Shelf Num

theorem getD_str (s : ByteArray) (k : Nat) (h : k < s.size) : s.data.toList.getD k 0 = s[k] := by
  rw [List.getD_eq_getElem?_getD, str_get s k h]; rfl
theorem str_eqB (a b : ByteArray) : (a.toList == b.toList) = (a.data.toList == b.data.toList) := by rw [str_list, str_list]
set_option maxHeartbeats 2000000 in
theorem zt_number (s : ByteArray) (w : World) (hs : s.size ≤ 140737488355328) (hp : Pow w) (he : Errs w) :
    Calls Tryd.prog 30 #[.string s] w fun e w' => e = .returned (.tuple #[.int .i64 (atoiV s.data.toList), .bool (numOkP s.data.toList)]) ∧ Below w.heap.size w w' := by
  have CA := Lib.hid (lib_Atoi s w hs he)
  obtain ⟨v1, v2⟩ := atoiV_bounds s.data.toList
  have HP := Lib.hid hp
  have HQ := Lib.hid (show numOkP s.data.toList = (atoiOk s.data.toList && ((itoaS (atoiV s.data.toList)).toList == s.toList)) by unfold numOkP; rw [str_eqB]; rfl)
  have CI := Lib.hid (fun W (hb : Below w.heap.size w W) => lib_Itoa (atoiV s.data.toList) W v1 v2 (HP.out.below hb))
  clear hp he
  unfold AtoiPost at CA
  generalize numOkP s.data.toList = NO at HQ ⊢
  generalize atoiV s.data.toList = V at CA CI HQ v1 v2 ⊢
  generalize atoiOk s.data.toList = OK at CA HQ
  go_enter Tryd.func30, Tryd.ntmps30
  go_wp2_with fail
  refine CA.out.mono ?_
  rintro e w1 ⟨er, her, rfl, hb1⟩
  have B1 := Lib.hid hb1; clear hb1
  cases OK with
  | true =>
    obtain rfl : er = .nilIface := her
    rw [Bool.true_and] at HQ
    go_wp2_with fail
    refine (CI.out _ B1.out).mono ?_
    rintro e w2 ⟨rfl, hb2⟩
    have B2 := Lib.hid (below_then B1.out hb2); clear hb2
    go_wp2_with fail
    go_ret2
    exact ⟨by rw [HQ.out]; rfl, B2.out⟩
  | false =>
    obtain ⟨t, a, rfl⟩ : ∃ t a, er = .iface t (.pointer (some a)) := her
    go_wp2_with fail
    go_ret2
    exact ⟨by rw [HQ.out]; rfl, B1.out⟩
theorem slice_data (s : ByteArray) (a : Nat) (h : s.size = 9) (ha : a + 2 ≤ 9) : (s.extract a (a + 2)).data.toList = (s.data.toList.drop a).take 2 := by
  rw [ByteArray.data_extract, Array.toList_extract]
  simp [List.extract]
set_option maxHeartbeats 4000000 in
theorem zt_readOffset (s : ByteArray) (w : World) (he : Errs w) :
    Calls Tryd.prog 29 #[.string s] w fun e w' => (∃ n : Int, e = .returned (.tuple #[.int .i64 n, .bool (offOkR s.data.toList)]) ∧ (offOkR s.data.toList = true → n = offVR s.data.toList) ∧ -400000000 ≤ n ∧ n ≤ 400000000) ∧ Below w.heap.size w w' := by
  obtain ⟨hsm1, hsm2⟩ := off_same s.data.toList
  by_cases hz : s.size = 9
  · obtain ⟨⟨b1, b2⟩, ⟨b3, b4⟩, b5, b6⟩ := hms_bound (l := s.data.toList) (by rw [str_len]; exact hz)
    obtain ⟨b7, b8⟩ := sec_bound (l := s.data.toList) (by rw [str_len]; exact hz)
    have hg0 := getD_str s 0 (by omega)
    have HE := Lib.hid he
    have CA1 := Lib.hid (fun W (hb : Below w.heap.size w W) => lib_Atoi (s.extract 1 3) W (by rw [ByteArray.size_extract]; omega) (HE.out.below hb))
    have CA2 := Lib.hid (fun W (hb : Below w.heap.size w W) => lib_Atoi (s.extract 4 6) W (by rw [ByteArray.size_extract]; omega) (HE.out.below hb))
    have CA3 := Lib.hid (fun W (hb : Below w.heap.size w W) => lib_Atoi (s.extract 7 9) W (by rw [ByteArray.size_extract]; omega) (HE.out.below hb))
    rw [slice_data s 1 hz (by omega)] at CA1
    rw [slice_data s 4 hz (by omega)] at CA2
    rw [slice_data s 7 hz (by omega)] at CA3
    unfold AtoiPost at CA1 CA2 CA3
    have HK := Lib.hid (show offOkP s.data.toList = ((decide (0 ≤ hO s.data.toList) && decide (0 ≤ mO s.data.toList) && decide (0 ≤ eO s.data.toList) && decide (hO s.data.toList < 100)) && ((offS (offNP s.data.toList)).toList == s.toList)) by
      unfold offOkP; rw [decide_eq_true (show s.data.toList.length = 9 by rw [str_len]; exact hz), str_eqB, Bool.true_and])
    have HN := Lib.hid (show offNP s.data.toList = if (s[0] == 45) = true then -(((hO s.data.toList * 60 + mO s.data.toList) * 60 + eO s.data.toList) * 1000) else ((hO s.data.toList * 60 + mO s.data.toList) * 60 + eO s.data.toList) * 1000 by
      unfold offNP secO; rw [hg0])
    rw [show atoiV ((s.data.toList.drop 1).take 2) = hO s.data.toList from rfl] at CA1
    rw [show atoiV ((s.data.toList.drop 4).take 2) = mO s.data.toList from rfl] at CA2
    rw [show atoiV ((s.data.toList.drop 7).take 2) = eO s.data.toList from rfl] at CA3
    have CO := Lib.hid (fun W => zt_offset (offNP s.data.toList) W b7 b8)
    rw [← hsm1] at hsm2 ⊢
    have HV := Lib.hid hsm2
    clear hsm1 hsm2 he
    generalize offOkP s.data.toList = KK at HK HV ⊢
    generalize offNP s.data.toList = N at HK HN HV CO b7 b8
    generalize hO s.data.toList = h at b1 b2 HK HN CA1
    generalize mO s.data.toList = m at b3 b4 HK HN CA2
    generalize eO s.data.toList = e at b5 b6 HK HN CA3
    have hu45 : (s[0] == 45) = ((s[0].toNat : Int) == 45) := by
      rw [Bool.eq_iff_iff, beq_iff_eq, beq_iff_eq]
      exact ⟨fun h => by rw [h]; rfl, fun h => by have : s[0] = UInt8.ofNat 45 := u8_to (by omega); simpa using this⟩
    rw [hu45] at HN
    clear hu45 hg0
    have hz9 : (s.size : Int) = 9 := by omega
    have hh : h < 100 := by omega
    go_enter Tryd.func29, Tryd.ntmps29
    go_wp2_with fail
    refine (CA1.out _ (Below.refl _ _)).mono ?_
    rintro e1 w1 ⟨er1, _, rfl, hb1⟩
    have B1 := Lib.hid hb1; clear hb1
    go_wp2_with fail
    refine (CA2.out _ B1.out).mono ?_
    rintro e2 w2 ⟨er2, _, rfl, hb2⟩
    have B2 := Lib.hid (below_then B1.out hb2); clear hb2
    go_wp2_with fail
    refine (CA3.out _ B2.out).mono ?_
    rintro e3 w3 ⟨er3, _, rfl, hb3⟩
    have B3 := Lib.hid (below_then B2.out hb3); clear hb3 B1 B2
    rcases Bool.eq_false_or_eq_true ((s[0].toNat : Int) == 45) with hs | hs
    · have hs : ((s[0].toNat : Int) == 45) = true := hs
      have HN2 := Lib.hid (show N = -(((h * 60 + m) * 60 + e) * 1000) by rw [HN.out, hs]; rfl)
      clear HN
      go_upto_region 9 with fail
      simp only [← HN2.out]
      clear HN2
      by_cases c1 : 0 ≤ h
      · by_cases c2 : 0 ≤ m
        · by_cases c3 : 0 ≤ e
          · have HKK := Lib.hid (show KK = ((offS N).toList == s.toList) by rw [HK.out, decide_eq_true c1, decide_eq_true c2, decide_eq_true c3, decide_eq_true hh]; rfl)
            clear HK
            go_wp2_with fail
            refine (CO.out _).mono ?_
            rintro e4 w4 ⟨rfl, hb4⟩
            have B4 := Lib.hid (below_then B3.out hb4); clear hb4
            go_wp2_with fail
            go_ret2
            exact ⟨⟨N, by rw [HKK.out]; rfl, HV.out, b7, b8⟩, B4.out⟩
          · have HKK := Lib.hid (show KK = false by rw [HK.out, decide_eq_false c3]; simp)
            clear HK
            go_wp2_with fail
            go_ret2
            exact ⟨⟨N, by rw [HKK.out]; rfl, HV.out, b7, b8⟩, B3.out⟩
        · have HKK := Lib.hid (show KK = false by rw [HK.out, decide_eq_false c2]; simp)
          clear HK
          go_wp2_with fail
          go_ret2
          exact ⟨⟨N, by rw [HKK.out]; rfl, HV.out, b7, b8⟩, B3.out⟩
      · have HKK := Lib.hid (show KK = false by rw [HK.out, decide_eq_false c1]; simp)
        clear HK
        go_wp2_with fail
        go_ret2
        exact ⟨⟨N, by rw [HKK.out]; rfl, HV.out, b7, b8⟩, B3.out⟩
    · have hs : ((s[0].toNat : Int) == 45) = false := hs
      have HN2 := Lib.hid (show N = ((h * 60 + m) * 60 + e) * 1000 by rw [HN.out, hs]; rfl)
      clear HN
      go_upto_region 9 with fail
      simp only [← HN2.out]
      clear HN2
      by_cases c1 : 0 ≤ h
      · by_cases c2 : 0 ≤ m
        · by_cases c3 : 0 ≤ e
          · have HKK := Lib.hid (show KK = ((offS N).toList == s.toList) by rw [HK.out, decide_eq_true c1, decide_eq_true c2, decide_eq_true c3, decide_eq_true hh]; rfl)
            clear HK
            go_wp2_with fail
            refine (CO.out _).mono ?_
            rintro e4 w4 ⟨rfl, hb4⟩
            have B4 := Lib.hid (below_then B3.out hb4); clear hb4
            go_wp2_with fail
            go_ret2
            exact ⟨⟨N, by rw [HKK.out]; rfl, HV.out, b7, b8⟩, B4.out⟩
          · have HKK := Lib.hid (show KK = false by rw [HK.out, decide_eq_false c3]; simp)
            clear HK
            go_wp2_with fail
            go_ret2
            exact ⟨⟨N, by rw [HKK.out]; rfl, HV.out, b7, b8⟩, B3.out⟩
        · have HKK := Lib.hid (show KK = false by rw [HK.out, decide_eq_false c2]; simp)
          clear HK
          go_wp2_with fail
          go_ret2
          exact ⟨⟨N, by rw [HKK.out]; rfl, HV.out, b7, b8⟩, B3.out⟩
      · have HKK := Lib.hid (show KK = false by rw [HK.out, decide_eq_false c1]; simp)
        clear HK
        go_wp2_with fail
        go_ret2
        exact ⟨⟨N, by rw [HKK.out]; rfl, HV.out, b7, b8⟩, B3.out⟩
  · have hk : offOkR s.data.toList = false := by unfold offOkR; rw [decide_eq_false (by rw [str_len]; exact hz)]; rfl
    have e1 : ((s.size : Int) != 9) = true := by simp; omega
    clear hsm1 hsm2
    rw [hk]
    go_enter Tryd.func29, Tryd.ntmps29
    go_wp2_with fail
    go_ret2
    exact ⟨⟨0, rfl, by simp, by omega, by omega⟩, Below.refl _ _⟩
theorem sumO_succ (l : List UInt8) (k : Nat) : sumO l (k + 1) = sumO l k + ((l.getD k 0).toNat - 48) * unitO k := rfl
theorem allO_succ (l : List UInt8) (k : Nat) (h : k ≠ 0) : allO l (k + 1) = (allO l k && okO l k) := by
  rw [allO, show (k == 0) = false by simpa using h, Bool.false_or]
theorem sumO_le (l : List UInt8) : ∀ k, sumO l k ≤ k * 7452000
  | 0 => Nat.le_refl _
  | k + 1 => by
    rw [sumO_succ]
    have h := sumO_le l k
    have h1 : (l.getD k 0).toNat - 48 ≤ 207 := by have := (l.getD k 0).toNat_lt; omega
    have h2 : unitO k ≤ 36000 := by unfold unitO; split <;> omega
    have := Nat.mul_le_mul h1 h2
    omega
def offRV (l : List UInt8) : Int := if offOkR l = true then offVR l else 0
theorem offRV_no {l : List UInt8} (h : offOkR l = false) : offRV l = 0 := by unfold offRV; rw [h]; rfl
theorem offRV_yes {l : List UInt8} (h : offOkR l = true) : offRV l = offVR l := by unfold offRV; rw [h]; rfl
theorem offR_all {l : List UInt8} (h : allO l 9 = true) (hl : l.length = 9) : offOkR l = tailO l := by unfold offOkR; rw [h, decide_eq_true hl]; rfl
theorem offR_bad {l : List UInt8} {k : Nat} (hk : k < 9) (h0 : k ≠ 0) (h : okO l k = false) : offOkR l = false := by
  unfold offOkR
  cases ha : allO l 9 with
  | false => simp
  | true => rw [allO_le ha hk h0] at h; cases h
set_option maxHeartbeats 16000000 in
theorem ref_offsetRead (s : ByteArray) (w : World) (hs : s.size ≤ 9223372036854775807) :
    Calls Tryd.prog 16 #[.string s] w fun e w' => e = .returned (.tuple #[.int .i64 (offRV s.data.toList), .bool (offOkR s.data.toList)]) ∧ Below w.heap.size w w' := by
  by_cases hz : s.size = 9
  · have hz9 : (s.size : Int) = 9 := by omega
    have HLEN := Lib.hid (show s.data.toList.length = 9 by rw [str_len]; exact hz)
    go_enter Tryd.func16, Tryd.ntmps16
    go_wp2_with fail
    go_loopw [4, 5, 6] (fun n i u wr => ∃ k : Nat, 1 ≤ k ∧ k ≤ 9 ∧ i = .int .i64 k ∧ n = .int .i64 (sumO s.data.toList k) ∧ (∃ V, V = u) ∧ allO s.data.toList k = true ∧ Below w.heap.size w wr) (fun n i u _ => 9 - (intOf i).toNat)
    case atStart => exact ⟨1, by omega, by omega, rfl, rfl, ⟨_, rfl⟩, rfl, Below.refl _ _⟩
    case round =>
      obtain ⟨k, hk1, hk9, rfl, rfl, ⟨V, rfl⟩, ha, hb⟩ := hrel
      have HA := Lib.hid ha; have HB := Lib.hid hb
      have hsl := sumO_le s.data.toList k
      clear ha hb
      rcases (show k = 1 ∨ k = 2 ∨ k = 3 ∨ k = 4 ∨ k = 5 ∨ k = 6 ∨ k = 7 ∨ k = 8 ∨ k = 9 by omega) with rfl | rfl | rfl | rfl | rfl | rfl | rfl | rfl | rfl
      · -- 1
        by_cases d1 : (s[1].toNat : Int) < 48
        · have hk : okO s.data.toList 1 = false := by
            unfold okO; rw [if_neg (by decide), getD_str s 1 (by omega), dig_int, decide_eq_false]; omega
          have HR := Lib.hid (offR_bad (by omega) (by omega) hk)
          clear hk
          go_wp2_with fail
          go_ret2
          exact ⟨by rw [HR.out, offRV_no HR.out]; rfl, HB.out⟩
        by_cases d2 : 57 < (s[1].toNat : Int)
        · have hk : okO s.data.toList 1 = false := by
            unfold okO; rw [if_neg (by decide), getD_str s 1 (by omega), dig_int, decide_eq_false]; omega
          have HR := Lib.hid (offR_bad (by omega) (by omega) hk)
          clear hk
          go_wp2_with fail
          go_ret2
          exact ⟨by rw [HR.out, offRV_no HR.out]; rfl, HB.out⟩
        have hk : okO s.data.toList 1 = true := by
          unfold okO; rw [if_neg (by decide), getD_str s 1 (by omega), dig_int, decide_eq_true]; omega
        have HALL := Lib.hid (show allO s.data.toList (1 + 1) = true by rw [allO_succ _ _ (by omega), HA.out, hk]; rfl)
        have HSUM := Lib.hid (show (sumO s.data.toList (1 + 1) : Int) = (sumO s.data.toList 1 : Int) + ((s[1].toNat : Int) - 48) * 36000 by
          rw [sumO_succ, getD_str s 1 (by omega), show unitO 1 = 36000 from rfl]; omega)
        have hgt : 48 ≤ (s[1].toNat : Int) := by omega
        have hlt57 : (s[1].toNat : Int) ≤ 57 := by omega
        have hbz : (0 : Int) ≤ sumO s.data.toList 1 := by omega
        have hby : (sumO s.data.toList 1 : Int) ≤ 100000000 := by omega
        clear hk
        have hal := At.new wr (.cells #[.int .i64 0, .int .i64 36000, .int .i64 3600, .int .i64 0, .int .i64 600, .int .i64 60, .int .i64 0, .int .i64 10, .int .i64 1] 3)
        have x1 := hal.cell 1
        simp at x1
        have HB2 := Lib.hid (below_new HB.out (.cells #[.int .i64 0, .int .i64 36000, .int .i64 3600, .int .i64 0, .int .i64 600, .int .i64 60, .int .i64 0, .int .i64 10, .int .i64 1] 3))
        go_wp2_with fail
        go_roundw
        case rel => exact ⟨2, by omega, by omega, rfl, by first | (rw [HSUM.out]; done) | (rw [HSUM.out]; go_num), ⟨_, rfl⟩, HALL.out, HB2.out⟩
        case measure => simp [intOf]
      · -- 2
        by_cases d1 : (s[2].toNat : Int) < 48
        · have hk : okO s.data.toList 2 = false := by
            unfold okO; rw [if_neg (by decide), getD_str s 2 (by omega), dig_int, decide_eq_false]; omega
          have HR := Lib.hid (offR_bad (by omega) (by omega) hk)
          clear hk
          go_wp2_with fail
          go_ret2
          exact ⟨by rw [HR.out, offRV_no HR.out]; rfl, HB.out⟩
        by_cases d2 : 57 < (s[2].toNat : Int)
        · have hk : okO s.data.toList 2 = false := by
            unfold okO; rw [if_neg (by decide), getD_str s 2 (by omega), dig_int, decide_eq_false]; omega
          have HR := Lib.hid (offR_bad (by omega) (by omega) hk)
          clear hk
          go_wp2_with fail
          go_ret2
          exact ⟨by rw [HR.out, offRV_no HR.out]; rfl, HB.out⟩
        have hk : okO s.data.toList 2 = true := by
          unfold okO; rw [if_neg (by decide), getD_str s 2 (by omega), dig_int, decide_eq_true]; omega
        have HALL := Lib.hid (show allO s.data.toList (2 + 1) = true by rw [allO_succ _ _ (by omega), HA.out, hk]; rfl)
        have HSUM := Lib.hid (show (sumO s.data.toList (2 + 1) : Int) = (sumO s.data.toList 2 : Int) + ((s[2].toNat : Int) - 48) * 3600 by
          rw [sumO_succ, getD_str s 2 (by omega), show unitO 2 = 3600 from rfl]; omega)
        have hgt : 48 ≤ (s[2].toNat : Int) := by omega
        have hlt57 : (s[2].toNat : Int) ≤ 57 := by omega
        have hbz : (0 : Int) ≤ sumO s.data.toList 2 := by omega
        have hby : (sumO s.data.toList 2 : Int) ≤ 100000000 := by omega
        clear hk
        have hal := At.new wr (.cells #[.int .i64 0, .int .i64 36000, .int .i64 3600, .int .i64 0, .int .i64 600, .int .i64 60, .int .i64 0, .int .i64 10, .int .i64 1] 3)
        have x2 := hal.cell 2
        simp at x2
        have HB2 := Lib.hid (below_new HB.out (.cells #[.int .i64 0, .int .i64 36000, .int .i64 3600, .int .i64 0, .int .i64 600, .int .i64 60, .int .i64 0, .int .i64 10, .int .i64 1] 3))
        go_wp2_with fail
        go_roundw
        case rel => exact ⟨3, by omega, by omega, rfl, by first | (rw [HSUM.out]; done) | (rw [HSUM.out]; go_num), ⟨_, rfl⟩, HALL.out, HB2.out⟩
        case measure => simp [intOf]
      · -- 3
        by_cases hc : ((s[3].toNat : Int) == 58) = true
        · have hc2 : ((s[3].toNat : Int) != 58) = false := by simpa using hc
          have hk : okO s.data.toList 3 = true := by
            unfold okO; rw [if_pos (by decide), getD_str s 3 (by omega)]
            have : s[3] = UInt8.ofNat 58 := u8_to (by have := hc; simp at this; omega)
            simpa using this
          have HALL := Lib.hid (show allO s.data.toList (3 + 1) = true by rw [allO_succ _ _ (by omega), HA.out, hk]; rfl)
          have HSUM := Lib.hid (show (sumO s.data.toList (3 + 1)) = sumO s.data.toList 3 by rw [sumO_succ]; rfl)
          clear hk
          go_wp2_with fail
          go_roundw
          case rel => exact ⟨4, by omega, by omega, rfl, by first | (rw [HSUM.out]; done) | rfl, ⟨_, rfl⟩, HALL.out, HB.out⟩
          case measure => simp [intOf]
        · have hc2 : ((s[3].toNat : Int) != 58) = true := by simpa using hc
          have hk : okO s.data.toList 3 = false := by
            unfold okO; rw [if_pos (by decide), getD_str s 3 (by omega), beq_eq_false_iff_ne]
            intro h; rw [h] at hc; exact hc rfl
          have HR := Lib.hid (offR_bad (by omega) (by omega) hk)
          clear hk hc
          go_wp2_with fail
          go_ret2
          exact ⟨by rw [HR.out, offRV_no HR.out]; rfl, HB.out⟩
      · -- 4
        by_cases d1 : (s[4].toNat : Int) < 48
        · have hk : okO s.data.toList 4 = false := by
            unfold okO; rw [if_neg (by decide), getD_str s 4 (by omega), dig_int, decide_eq_false]; omega
          have HR := Lib.hid (offR_bad (by omega) (by omega) hk)
          clear hk
          go_wp2_with fail
          go_ret2
          exact ⟨by rw [HR.out, offRV_no HR.out]; rfl, HB.out⟩
        by_cases d2 : 57 < (s[4].toNat : Int)
        · have hk : okO s.data.toList 4 = false := by
            unfold okO; rw [if_neg (by decide), getD_str s 4 (by omega), dig_int, decide_eq_false]; omega
          have HR := Lib.hid (offR_bad (by omega) (by omega) hk)
          clear hk
          go_wp2_with fail
          go_ret2
          exact ⟨by rw [HR.out, offRV_no HR.out]; rfl, HB.out⟩
        have hk : okO s.data.toList 4 = true := by
          unfold okO; rw [if_neg (by decide), getD_str s 4 (by omega), dig_int, decide_eq_true]; omega
        have HALL := Lib.hid (show allO s.data.toList (4 + 1) = true by rw [allO_succ _ _ (by omega), HA.out, hk]; rfl)
        have HSUM := Lib.hid (show (sumO s.data.toList (4 + 1) : Int) = (sumO s.data.toList 4 : Int) + ((s[4].toNat : Int) - 48) * 600 by
          rw [sumO_succ, getD_str s 4 (by omega), show unitO 4 = 600 from rfl]; omega)
        have hgt : 48 ≤ (s[4].toNat : Int) := by omega
        have hlt57 : (s[4].toNat : Int) ≤ 57 := by omega
        have hbz : (0 : Int) ≤ sumO s.data.toList 4 := by omega
        have hby : (sumO s.data.toList 4 : Int) ≤ 100000000 := by omega
        clear hk
        have hal := At.new wr (.cells #[.int .i64 0, .int .i64 36000, .int .i64 3600, .int .i64 0, .int .i64 600, .int .i64 60, .int .i64 0, .int .i64 10, .int .i64 1] 3)
        have x4 := hal.cell 4
        simp at x4
        have HB2 := Lib.hid (below_new HB.out (.cells #[.int .i64 0, .int .i64 36000, .int .i64 3600, .int .i64 0, .int .i64 600, .int .i64 60, .int .i64 0, .int .i64 10, .int .i64 1] 3))
        go_wp2_with fail
        go_roundw
        case rel => exact ⟨5, by omega, by omega, rfl, by first | (rw [HSUM.out]; done) | (rw [HSUM.out]; go_num), ⟨_, rfl⟩, HALL.out, HB2.out⟩
        case measure => simp [intOf]
      · -- 5
        by_cases d1 : (s[5].toNat : Int) < 48
        · have hk : okO s.data.toList 5 = false := by
            unfold okO; rw [if_neg (by decide), getD_str s 5 (by omega), dig_int, decide_eq_false]; omega
          have HR := Lib.hid (offR_bad (by omega) (by omega) hk)
          clear hk
          go_wp2_with fail
          go_ret2
          exact ⟨by rw [HR.out, offRV_no HR.out]; rfl, HB.out⟩
        by_cases d2 : 57 < (s[5].toNat : Int)
        · have hk : okO s.data.toList 5 = false := by
            unfold okO; rw [if_neg (by decide), getD_str s 5 (by omega), dig_int, decide_eq_false]; omega
          have HR := Lib.hid (offR_bad (by omega) (by omega) hk)
          clear hk
          go_wp2_with fail
          go_ret2
          exact ⟨by rw [HR.out, offRV_no HR.out]; rfl, HB.out⟩
        have hk : okO s.data.toList 5 = true := by
          unfold okO; rw [if_neg (by decide), getD_str s 5 (by omega), dig_int, decide_eq_true]; omega
        have HALL := Lib.hid (show allO s.data.toList (5 + 1) = true by rw [allO_succ _ _ (by omega), HA.out, hk]; rfl)
        have HSUM := Lib.hid (show (sumO s.data.toList (5 + 1) : Int) = (sumO s.data.toList 5 : Int) + ((s[5].toNat : Int) - 48) * 60 by
          rw [sumO_succ, getD_str s 5 (by omega), show unitO 5 = 60 from rfl]; omega)
        have hgt : 48 ≤ (s[5].toNat : Int) := by omega
        have hlt57 : (s[5].toNat : Int) ≤ 57 := by omega
        have hbz : (0 : Int) ≤ sumO s.data.toList 5 := by omega
        have hby : (sumO s.data.toList 5 : Int) ≤ 100000000 := by omega
        clear hk
        have hal := At.new wr (.cells #[.int .i64 0, .int .i64 36000, .int .i64 3600, .int .i64 0, .int .i64 600, .int .i64 60, .int .i64 0, .int .i64 10, .int .i64 1] 3)
        have x5 := hal.cell 5
        simp at x5
        have HB2 := Lib.hid (below_new HB.out (.cells #[.int .i64 0, .int .i64 36000, .int .i64 3600, .int .i64 0, .int .i64 600, .int .i64 60, .int .i64 0, .int .i64 10, .int .i64 1] 3))
        go_wp2_with fail
        go_roundw
        case rel => exact ⟨6, by omega, by omega, rfl, by first | (rw [HSUM.out]; done) | (rw [HSUM.out]; go_num), ⟨_, rfl⟩, HALL.out, HB2.out⟩
        case measure => simp [intOf]
      · -- 6
        by_cases hc : ((s[6].toNat : Int) == 58) = true
        · have hc2 : ((s[6].toNat : Int) != 58) = false := by simpa using hc
          have hk : okO s.data.toList 6 = true := by
            unfold okO; rw [if_pos (by decide), getD_str s 6 (by omega)]
            have : s[6] = UInt8.ofNat 58 := u8_to (by have := hc; simp at this; omega)
            simpa using this
          have HALL := Lib.hid (show allO s.data.toList (6 + 1) = true by rw [allO_succ _ _ (by omega), HA.out, hk]; rfl)
          have HSUM := Lib.hid (show (sumO s.data.toList (6 + 1)) = sumO s.data.toList 6 by rw [sumO_succ]; rfl)
          clear hk
          go_wp2_with fail
          go_roundw
          case rel => exact ⟨7, by omega, by omega, rfl, by first | (rw [HSUM.out]; done) | rfl, ⟨_, rfl⟩, HALL.out, HB.out⟩
          case measure => simp [intOf]
        · have hc2 : ((s[6].toNat : Int) != 58) = true := by simpa using hc
          have hk : okO s.data.toList 6 = false := by
            unfold okO; rw [if_pos (by decide), getD_str s 6 (by omega), beq_eq_false_iff_ne]
            intro h; rw [h] at hc; exact hc rfl
          have HR := Lib.hid (offR_bad (by omega) (by omega) hk)
          clear hk hc
          go_wp2_with fail
          go_ret2
          exact ⟨by rw [HR.out, offRV_no HR.out]; rfl, HB.out⟩
      · -- 7
        by_cases d1 : (s[7].toNat : Int) < 48
        · have hk : okO s.data.toList 7 = false := by
            unfold okO; rw [if_neg (by decide), getD_str s 7 (by omega), dig_int, decide_eq_false]; omega
          have HR := Lib.hid (offR_bad (by omega) (by omega) hk)
          clear hk
          go_wp2_with fail
          go_ret2
          exact ⟨by rw [HR.out, offRV_no HR.out]; rfl, HB.out⟩
        by_cases d2 : 57 < (s[7].toNat : Int)
        · have hk : okO s.data.toList 7 = false := by
            unfold okO; rw [if_neg (by decide), getD_str s 7 (by omega), dig_int, decide_eq_false]; omega
          have HR := Lib.hid (offR_bad (by omega) (by omega) hk)
          clear hk
          go_wp2_with fail
          go_ret2
          exact ⟨by rw [HR.out, offRV_no HR.out]; rfl, HB.out⟩
        have hk : okO s.data.toList 7 = true := by
          unfold okO; rw [if_neg (by decide), getD_str s 7 (by omega), dig_int, decide_eq_true]; omega
        have HALL := Lib.hid (show allO s.data.toList (7 + 1) = true by rw [allO_succ _ _ (by omega), HA.out, hk]; rfl)
        have HSUM := Lib.hid (show (sumO s.data.toList (7 + 1) : Int) = (sumO s.data.toList 7 : Int) + ((s[7].toNat : Int) - 48) * 10 by
          rw [sumO_succ, getD_str s 7 (by omega), show unitO 7 = 10 from rfl]; omega)
        have hgt : 48 ≤ (s[7].toNat : Int) := by omega
        have hlt57 : (s[7].toNat : Int) ≤ 57 := by omega
        have hbz : (0 : Int) ≤ sumO s.data.toList 7 := by omega
        have hby : (sumO s.data.toList 7 : Int) ≤ 100000000 := by omega
        clear hk
        have hal := At.new wr (.cells #[.int .i64 0, .int .i64 36000, .int .i64 3600, .int .i64 0, .int .i64 600, .int .i64 60, .int .i64 0, .int .i64 10, .int .i64 1] 3)
        have x7 := hal.cell 7
        simp at x7
        have HB2 := Lib.hid (below_new HB.out (.cells #[.int .i64 0, .int .i64 36000, .int .i64 3600, .int .i64 0, .int .i64 600, .int .i64 60, .int .i64 0, .int .i64 10, .int .i64 1] 3))
        go_wp2_with fail
        go_roundw
        case rel => exact ⟨8, by omega, by omega, rfl, by first | (rw [HSUM.out]; done) | (rw [HSUM.out]; go_num), ⟨_, rfl⟩, HALL.out, HB2.out⟩
        case measure => simp [intOf]
      · -- 8
        by_cases d1 : (s[8].toNat : Int) < 48
        · have hk : okO s.data.toList 8 = false := by
            unfold okO; rw [if_neg (by decide), getD_str s 8 (by omega), dig_int, decide_eq_false]; omega
          have HR := Lib.hid (offR_bad (by omega) (by omega) hk)
          clear hk
          go_wp2_with fail
          go_ret2
          exact ⟨by rw [HR.out, offRV_no HR.out]; rfl, HB.out⟩
        by_cases d2 : 57 < (s[8].toNat : Int)
        · have hk : okO s.data.toList 8 = false := by
            unfold okO; rw [if_neg (by decide), getD_str s 8 (by omega), dig_int, decide_eq_false]; omega
          have HR := Lib.hid (offR_bad (by omega) (by omega) hk)
          clear hk
          go_wp2_with fail
          go_ret2
          exact ⟨by rw [HR.out, offRV_no HR.out]; rfl, HB.out⟩
        have hk : okO s.data.toList 8 = true := by
          unfold okO; rw [if_neg (by decide), getD_str s 8 (by omega), dig_int, decide_eq_true]; omega
        have HALL := Lib.hid (show allO s.data.toList (8 + 1) = true by rw [allO_succ _ _ (by omega), HA.out, hk]; rfl)
        have HSUM := Lib.hid (show (sumO s.data.toList (8 + 1) : Int) = (sumO s.data.toList 8 : Int) + ((s[8].toNat : Int) - 48) * 1 by
          rw [sumO_succ, getD_str s 8 (by omega), show unitO 8 = 1 from rfl]; omega)
        have hgt : 48 ≤ (s[8].toNat : Int) := by omega
        have hlt57 : (s[8].toNat : Int) ≤ 57 := by omega
        have hbz : (0 : Int) ≤ sumO s.data.toList 8 := by omega
        have hby : (sumO s.data.toList 8 : Int) ≤ 100000000 := by omega
        clear hk
        have hal := At.new wr (.cells #[.int .i64 0, .int .i64 36000, .int .i64 3600, .int .i64 0, .int .i64 600, .int .i64 60, .int .i64 0, .int .i64 10, .int .i64 1] 3)
        have x8 := hal.cell 8
        simp at x8
        have HB2 := Lib.hid (below_new HB.out (.cells #[.int .i64 0, .int .i64 36000, .int .i64 3600, .int .i64 0, .int .i64 600, .int .i64 60, .int .i64 0, .int .i64 10, .int .i64 1] 3))
        go_wp2_with fail
        go_roundw
        case rel => exact ⟨9, by omega, by omega, rfl, by first | (rw [HSUM.out]; done) | (rw [HSUM.out]; go_num), ⟨_, rfl⟩, HALL.out, HB2.out⟩
        case measure => simp [intOf]
      · have HT := Lib.hid (offR_all HA.out HLEN.out)
        have g0 := getD_str s 0 (by omega); have g4 := getD_str s 4 (by omega); have g7 := getD_str s 7 (by omega)
        have u45 : (s[0] == 45) = ((s[0].toNat : Int) == 45) := by
          rw [Bool.eq_iff_iff, beq_iff_eq, beq_iff_eq]
          exact ⟨fun h => by rw [h]; rfl, fun h => by have : s[0] = UInt8.ofNat 45 := u8_to (by omega); simpa using this⟩
        have u43 : (s[0] == 43) = ((s[0].toNat : Int) == 43) := by
          rw [Bool.eq_iff_iff, beq_iff_eq, beq_iff_eq]
          exact ⟨fun h => by rw [h]; rfl, fun h => by have : s[0] = UInt8.ofNat 43 := u8_to (by omega); simpa using this⟩
        have HT2 := Lib.hid (show offOkR s.data.toList = (decide (s[4].toNat ≤ 53) && decide (s[7].toNat ≤ 53) && (((s[0].toNat : Int) == 43) || ((s[0].toNat : Int) == 45)) && !(decide (sumO s.data.toList 9 = 0) && ((s[0].toNat : Int) == 45))) by
          rw [HT.out]; unfold tailO; rw [g0, g4, g7, u43, u45])
        have HV := Lib.hid (show offVR s.data.toList = if ((s[0].toNat : Int) == 45) = true then -(1000 * (sumO s.data.toList 9 : Int)) else 1000 * (sumO s.data.toList 9 : Int) by unfold offVR; rw [g0, u45])
        clear g0 g4 g7 u45 u43 HT
        obtain ⟨Z, hZ⟩ : ∃ Z, Z = sumO s.data.toList 9 := ⟨_, rfl⟩
        rw [← hZ] at HT2 HV hsl ⊢
        clear hZ HA
        have hz0 : (0 : Int) ≤ (Z : Int) := by omega
        have hz1 : (Z : Int) ≤ 100000000 := by omega
        by_cases a4 : 53 < (s[4].toNat : Int)
        · have HR := Lib.hid (show offOkR s.data.toList = false by rw [HT2.out, decide_eq_false (by omega)]; rfl)
          clear HT2 HV
          go_wp2_with fail
          go_ret2
          exact ⟨by rw [offRV_no HR.out, HR.out]; rfl, HB.out⟩
        by_cases a7 : 53 < (s[7].toNat : Int)
        · have HR := Lib.hid (show offOkR s.data.toList = false by rw [HT2.out, decide_eq_false (show ¬ s[7].toNat ≤ 53 by omega)]; simp)
          clear HT2 HV
          go_wp2_with fail
          go_ret2
          exact ⟨by rw [offRV_no HR.out, HR.out]; rfl, HB.out⟩
        have HT3 := Lib.hid (show offOkR s.data.toList = ((((s[0].toNat : Int) == 43) || ((s[0].toNat : Int) == 45)) && !(decide (Z = 0) && ((s[0].toNat : Int) == 45))) by
          rw [HT2.out, decide_eq_true (show s[4].toNat ≤ 53 by omega), decide_eq_true (show s[7].toNat ≤ 53 by omega)]; rfl)
        clear HT2
        by_cases c45 : (s[0].toNat : Int) = 45
        · have e1 : ((s[0].toNat : Int) != 43) = true := by simp; omega
          have e2 : ((s[0].toNat : Int) != 45) = false := by simp; omega
          have e3 : ((s[0].toNat : Int) == 45) = true := by simp; omega
          by_cases hZ0 : Z = 0
          · have e4 : ((Z : Int) == 0) = true := by simp; omega
            have HR := Lib.hid (show offOkR s.data.toList = false by rw [HT3.out, e3, decide_eq_true hZ0]; simp)
            clear HT3 HV c45 hZ0
            go_wp2_with fail
            go_ret2
            exact ⟨by rw [offRV_no HR.out, HR.out]; rfl, HB.out⟩
          · have e4 : ((Z : Int) == 0) = false := by simp; omega
            have HR := Lib.hid (show offOkR s.data.toList = true by rw [HT3.out, e3, decide_eq_false hZ0]; simp)
            have HV2 := Lib.hid (show offVR s.data.toList = 1000 * -(Z : Int) by rw [HV.out, e3, if_pos rfl]; omega)
            clear HT3 HV c45 hZ0
            go_wp2_with fail
            go_ret2
            exact ⟨by rw [offRV_yes HR.out, HR.out, HV2.out]; rfl, HB.out⟩
        · have e2 : ((s[0].toNat : Int) != 45) = true := by simp; omega
          have e3 : ((s[0].toNat : Int) == 45) = false := by simp; omega
          by_cases c43 : (s[0].toNat : Int) = 43
          · have e1 : ((s[0].toNat : Int) != 43) = false := by simp; omega
            have e5 : ((s[0].toNat : Int) == 43) = true := by simp; omega
            have HR := Lib.hid (show offOkR s.data.toList = true by rw [HT3.out, e3, e5]; simp)
            have HV2 := Lib.hid (show offVR s.data.toList = 1000 * (Z : Int) by rw [HV.out, e3]; rfl)
            by_cases hZ0 : Z = 0
            · have e4 : ((Z : Int) == 0) = true := by simp; omega
              clear HT3 HV c45 c43 hZ0 e5
              go_wp2_with fail
              go_ret2
              exact ⟨by rw [offRV_yes HR.out, HR.out, HV2.out]; rfl, HB.out⟩
            · have e4 : ((Z : Int) == 0) = false := by simp; omega
              clear HT3 HV c45 c43 hZ0 e5
              go_wp2_with fail
              go_ret2
              exact ⟨by rw [offRV_yes HR.out, HR.out, HV2.out]; rfl, HB.out⟩
          · have e1 : ((s[0].toNat : Int) != 43) = true := by simp; omega
            have e5 : ((s[0].toNat : Int) == 43) = false := by simp; omega
            have HR := Lib.hid (show offOkR s.data.toList = false by rw [HT3.out, e3, e5]; rfl)
            clear HT3 HV c45 c43 e5
            go_wp2_with fail
            go_ret2
            exact ⟨by rw [offRV_no HR.out, HR.out]; rfl, HB.out⟩
  · have hk : offOkR s.data.toList = false := by unfold offOkR; rw [decide_eq_false (by rw [str_len]; exact hz)]; rfl
    have e1 : ((s.size : Int) != 9) = true := by simp; omega
    rw [offRV_no hk, hk]
    go_enter Tryd.func16, Tryd.ntmps16
    go_wp2_with fail
    go_ret2
    exact ⟨rfl, Below.refl _ _⟩
end Go.Proofs.YthpiiocncdpimabDoor
