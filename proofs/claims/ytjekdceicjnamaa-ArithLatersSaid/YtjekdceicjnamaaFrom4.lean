/- Contract of the reference's Years.FromDay, second part. -/
import Derived.Test.YtjekdceicjnamaaFrom3
namespace Go.Proofs.Ytjekdceicjnamaa
set_option linter.unusedVariables false
set_option maxRecDepth 100000
open Go.RowKit

set_option maxHeartbeats 2000000 in
theorem years_FromDay_no (w : World) (s : ByteArray) (f : Int) (C : Nat) (a1 a2 : Option Addr) (n1 c1 n2 c2 : Nat) (ms : List Mon) (ls : List Int) (g : Nat) (x y : Int) (ok : CalOk s f C ms ls) (x1' : -4000000 ≤ x) (x2' : x ≤ 4000000) (hg : MarksAt w g C ls) (h : CalAt w a1 a2 n1 n2 ms ls) (hin : InYear ms ls f C y x) (hy : inB (-10000) 10000 y = false) :
    Calls Try.prog 62 #[.agg #[.string s, .int .i64 f, .int .i64 (C : Int), .slice a1 n1 c1, .slice a2 n2 c2, .slice (some ⟨g, 0, none⟩) C C, .int .i64 (shortOf ms), .int .i64 (longOf ms), .int .i64 (daysTo (shortOf ms) (longOf ms) ls (C : Int))], .int .i64 x] w fun e w' => e = .returned noDate ∧ Below w.heap.size w w' := by
  obtain ⟨g1, g2, g3, g4⟩ := ok_n1 h ok
  have L1 := Lib.hid h.1.len
  have cy1 : 1 ≤ C := by have := ok.cy1; omega
  have cy2 : C ≤ 3000 := by have := ok.cy2; omega
  have ep1 := ok.ep1; have ep2 := ok.ep2
  obtain ⟨q, p, hpC, hYq, hny⟩ := year_parts C y cy1
  have hnyY := hny (shortOf ms) (longOf ms) f ls
  have hin2 := hin.2
  rw [nyOf_succ ok y] at hin2
  have hin1 := hin.1
  have hpl : placeOf C y = (p : Int) := by rw [hYq]; exact place_at C q p hpC
  rw [hpl] at hin2
  have hlp := lenY_pos ok (flag ls (p : Int))
  have hsucc := daysTo_succ (shortOf ms) (longOf ms) ls (p : Int) ok.sorted
  have hTle := daysTo_le ok (show (p : Int) + 1 ≤ C by omega) (by omega)
  have hTb := daysTo_bound (shortOf ms) (longOf ms) ls (C : Int) (by omega) (by omega) ok.sh1 ok.sh2 ok.lo1 ok.lo2 ok.sorted (fun z hz => (ok.leaps z hz).1)
  have hpb := daysTo_bound (shortOf ms) (longOf ms) ls (p : Int) (by omega) (by omega) ok.sh1 ok.sh2 ok.lo1 ok.lo2 ok.sorted (fun z hz => (ok.leaps z hz).1)
  obtain ⟨T, hT⟩ : ∃ T, T = daysTo (shortOf ms) (longOf ms) ls C := ⟨_, rfl⟩
  rw [← hT] at hnyY hTle hTb ⊢
  rw [hnyY] at hin1 hin2
  have hq : (x - f) / T = q := div_is (x - f) T q (by omega) (by omega) (by omega)
  have hqb : -33000000 ≤ q * T ∧ q * T ≤ 8100000 := by omega
  have hqs : -33000000 ≤ q ∧ q ≤ 9000000 := by
    have := mul_abs_le' q T (by omega)
    omega
  have hqC : -33000000 ≤ q * (C : Int) ∧ q * (C : Int) ≤ 9000000 := by
    have e1 := hTb.1
    rcases Int.lt_or_le q 0 with hq0 | hq0
    · have a := Int.mul_le_mul_of_nonpos_left (show q ≤ 0 by omega) e1
      have b := Int.mul_nonneg_of_nonpos_of_nonpos (show q ≤ 0 by omega) (show -(C : Int) ≤ 0 by omega)
      rw [Int.mul_neg] at b
      omega
    · have a := Int.mul_le_mul_of_nonneg_left e1 hq0
      have b := Int.mul_nonneg hq0 (show 0 ≤ (C : Int) by omega)
      omega
  obtain ⟨qb1, qb2⟩ := hqb
  obtain ⟨qs1, qs2⟩ := hqs
  obtain ⟨qC1, qC2⟩ := hqC
  obtain ⟨T1, T2⟩ := hTb
  have T3 : T ≤ 24000000 := by omega
  have hx := inB_yes x1' x2'
  have HQ := Lib.hid hq; have HY := Lib.hid hYq; have HPL := Lib.hid hpl
  have H := Lib.hid h; have OK := Lib.hid ok; have HG := Lib.hid hg
  have HI1 := Lib.hid hin1; have HI2 := Lib.hid hin2
  have HD0 := Lib.hid (daysTo_zero (shortOf ms) (longOf ms) ls (fun z hz => (ok.leaps z hz).1))
  clear h ok hg hin hin1 hin2 hlp hsucc hTle hpb hq hYq hpl hnyY hny hT
  go_enter Try.func62, Try.ntmps62
  go_wp2_with fail
  refine (ref_Day _ _).mono ?_; rw [hx]; rintro e w1 ⟨rfl, rfl⟩
  go_wp2_with fail
  refine (ref_Floor _ _ _ (by omega) (by omega) (by omega) (by omega)).mono ?_; rw [HQ.out]; rintro e w1 ⟨rfl, rfl⟩
  have tw := Two.new w (.cells #[.string s, .int .i64 f, .int .i64 (C : Int), .slice a1 n1 c1, .slice a2 n2 c2, .slice (some ⟨g, 0, none⟩) C C, .int .i64 (shortOf ms), .int .i64 (longOf ms), .int .i64 T] 54) (.cells #[.int .i64 0, .int .i64 0, .int .i64 0] 39)
  generalize World.alloc (World.alloc w _) _ = W1 at tw ⊢
  obtain ⟨z0, z1, z2, z3, z4, z5, z6, z7, z8⟩ := tw.years
  have t1 : IntKind.i64.wrap (q * (C : Int)) = q * (C : Int) := IntWalk.i64_in _ (by omega)
  have t2 : IntKind.i64.wrap (1 + q * (C : Int)) = 1 + q * (C : Int) := IntWalk.i64_in _ (by omega)
  have t3 : IntKind.i64.wrap (x - f) = x - f := IntWalk.i64_in _ (by omega)
  have t4 : IntKind.i64.wrap (q * T) = q * T := IntWalk.i64_in _ (by omega)
  have t5 : IntKind.i64.wrap (x - f - q * T) = x - f - q * T := IntWalk.i64_in _ (by omega)
  go_wp2_with fail
  go_quiet (fail)
  have tw1 := tw.drewN nq
  clear t1 t2 t3 t4 t5 z0 z1 z2 z3 z4 z5 z6 z7 z8 tw
  go_wp2_with fail
  go_loopw [7, 8] (fun u v wr => ∃ i : Nat, i ≤ p ∧ u = .int .i64 (1 + q * (C : Int) + (i : Int)) ∧ v = .int .i64 (x - f - q * T - daysTo (shortOf ms) (longOf ms) ls (i : Int)) ∧ Two w (.cells #[.string s, .int .i64 f, .int .i64 (C : Int), .slice a1 n1 c1, .slice a2 n2 c2, .slice (some ⟨g, 0, none⟩) C C, .int .i64 (shortOf ms), .int .i64 (longOf ms), .int .i64 T] 54) (.cells #[.int .i64 0, .int .i64 0, .int .i64 0] 39) wr) (fun u _ _ => (1 + q * (C : Int) + p - intOf u).toNat)
  case atStart => exact ⟨0, by omega, by simp, by rw [show ((0 : Nat) : Int) = 0 from rfl, HD0.out]; simp, tw1⟩
  case round =>
    clear tw1
    obtain ⟨i, hi, rfl, rfl, tw⟩ := hrel
    have hdb := daysTo_bound (shortOf ms) (longOf ms) ls (i : Int) (by omega) (by omega) OK.out.sh1 OK.out.sh2 OK.out.lo1 OK.out.lo2 OK.out.sorted (fun z hz => (OK.out.leaps z hz).1)
    obtain ⟨db1, db2⟩ := hdb
    have hds := daysTo_succ (shortOf ms) (longOf ms) ls (i : Int) OK.out.sorted
    have hpi := Lib.hid (place_at C q i (by omega))
    have hlb := lenY_pos OK.out (flag ls (i : Int))
    obtain ⟨lb1, lb2⟩ := hlb
    obtain ⟨z0, z1, z2, z3, z4, z5, z6, z7, z8⟩ := tw.years
    by_cases hlt : i < p
    · have hle := daysTo_le OK.out (show (i : Int) + 1 ≤ (p : Int) by omega) (by omega)
      have hi1 := HI1.out
      rw [hds] at hle
      have hge : lenY (shortOf ms) (longOf ms) (flag ls (i : Int)) ≤ x - f - q * T - daysTo (shortOf ms) (longOf ms) ls (i : Int) := by omega
      have HDS := Lib.hid hds
      clear hds hle hi1
      obtain ⟨Z, hZ⟩ : ∃ Z, Z = lenY (shortOf ms) (longOf ms) (flag ls (i : Int)) := ⟨_, rfl⟩
      rw [← hZ] at hge lb1 lb2 HDS
      have HZ := Lib.hid hZ; clear hZ
      generalize hDD : daysTo (shortOf ms) (longOf ms) ls (i : Int) = D at hge db1 db2 HDS ⊢
      clear hDD
      go_wp2_with fail
      refine (years_Length _ s f C a1 a2 n1 c1 n2 c2 ms ls g _ _ _ _ cy1 cy2 (by omega) (by omega) (HG.out.then_ tw.2.2)).mono ?_
      rw [hpi.out, ← HZ.out]
      rintro e w2 ⟨rfl, hb⟩
      replace tw := tw.step hb
      clear hb z0 z1 z2 z3 z4 z5 z6 z7 z8
      obtain ⟨z0, z1, z2, z3, z4, z5, z6, z7, z8⟩ := tw.years
      go_wp2_with fail
      refine (years_Length _ s f C a1 a2 n1 c1 n2 c2 ms ls g _ _ _ _ cy1 cy2 (by omega) (by omega) (HG.out.then_ tw.2.2)).mono ?_
      rw [hpi.out, ← HZ.out]
      rintro e w3 ⟨rfl, hb⟩
      replace tw := tw.step hb
      clear hb z0 z1 z2 z3 z4 z5 z6 z7 z8
      go_wp2_with fail
      go_roundw
      case rel => exact ⟨i + 1, by omega, by go_num, by rw [show ((i + 1 : Nat) : Int) = (i : Int) + 1 by omega, HDS.out]; go_num, tw⟩
      case measure => simp [intOf]; omega
    · obtain rfl : p = i := by omega
      have hi2 := HI2.out
      have hi1 := HI1.out
      have hge : x - f - q * T - daysTo (shortOf ms) (longOf ms) ls (p : Int) < lenY (shortOf ms) (longOf ms) (flag ls (p : Int)) := by omega
      have hR0 : 0 ≤ x - f - q * T - daysTo (shortOf ms) (longOf ms) ls (p : Int) := by omega
      clear hds hi1 hi2
      obtain ⟨R, hR⟩ : ∃ R, R = x - f - q * T - daysTo (shortOf ms) (longOf ms) ls (p : Int) := ⟨_, rfl⟩
      rw [← hR] at hge hR0 ⊢
      have HR := Lib.hid hR; clear hR
      obtain ⟨Z, hZ⟩ : ∃ Z, Z = lenY (shortOf ms) (longOf ms) (flag ls (p : Int)) := ⟨_, rfl⟩
      rw [← hZ] at hge lb1 lb2
      have HZ := Lib.hid hZ; clear hZ
      go_wp2_with fail
      refine (years_Length _ s f C a1 a2 n1 c1 n2 c2 ms ls g _ _ _ _ cy1 cy2 (by omega) (by omega) (HG.out.then_ tw.2.2)).mono ?_
      rw [hpi.out, ← HZ.out]
      rintro e w2 ⟨rfl, hb⟩
      replace tw := tw.step hb
      clear hb z0 z1 z2 z3 z4 z5 z6 z7 z8
      rw [← HY.out]
      go_wp2_with fail
      refine (ref_In _ _ _ _).mono ?_; rw [hy]; rintro e w3 ⟨rfl, rfl⟩
      have ar := tw.2.1
      have e0 := ar.cell 0; have e1 := ar.cell 1; have e2 := ar.cell 2; simp at e0 e1 e2
      have z0 := ar.frozen 0; have z1 := ar.frozen 1; have z2 := ar.frozen 2
      go_wp2_with fail
      have ar3 := ar.store3 (.int .i64 0) (.int .i64 0) (.int .i64 0)
      have b3 := below_set3 tw.2.2 (p := w.heap.size + 1) (by omega) (.int .i64 0) (.int .i64 0) (.int .i64 0)
      clear e0 e1 e2 z0 z1 z2
      generalize World.setCell (World.setCell _ _ _) _ _ = W3 at ar3 b3 ⊢
      have e0 := ar3.cell 0; have e1 := ar3.cell 1; have e2 := ar3.cell 2; simp at e0 e1 e2
      exact bodyPost_ret (v := noDate) (by simp [noDate, results, Try.results62, go_sem, e0, e1, e2]) rfl ⟨rfl, b3⟩
set_option maxHeartbeats 4000000 in
theorem years_FromDay_yes (w : World) (s : ByteArray) (f : Int) (C : Nat) (a1 a2 : Option Addr) (n1 c1 n2 c2 : Nat) (ms : List Mon) (ls : List Int) (g : Nat) (x y : Int) (ok : CalOk s f C ms ls) (x1' : -4000000 ≤ x) (x2' : x ≤ 4000000) (hg : MarksAt w g C ls) (h : CalAt w a1 a2 n1 n2 ms ls) (hin : InYear ms ls f C y x) (y1 : -10000 ≤ y) (y2 : y ≤ 10000) (k : Nat) (r' : Int) (hk : findM (flag ls (placeOf C y)) ms (x - nyOf (shortOf ms) (longOf ms) f C ls y) 0 = (k, r')) :
    Calls Try.prog 62 #[.agg #[.string s, .int .i64 f, .int .i64 (C : Int), .slice a1 n1 c1, .slice a2 n2 c2, .slice (some ⟨g, 0, none⟩) C C, .int .i64 (shortOf ms), .int .i64 (longOf ms), .int .i64 (daysTo (shortOf ms) (longOf ms) ls (C : Int))], .int .i64 x] w fun e w' => e = .returned (dateAt y k r') ∧ Below w.heap.size w w' := by
  have hy := inB_yes y1 y2
  have HK := Lib.hid hk; clear hk
  obtain ⟨g1, g2, g3, g4⟩ := ok_n1 h ok
  have L1 := Lib.hid h.1.len
  have cy1 : 1 ≤ C := by have := ok.cy1; omega
  have cy2 : C ≤ 3000 := by have := ok.cy2; omega
  have ep1 := ok.ep1; have ep2 := ok.ep2
  obtain ⟨q, p, hpC, hYq, hny⟩ := year_parts C y cy1
  have hnyY := hny (shortOf ms) (longOf ms) f ls
  have hin2 := hin.2
  rw [nyOf_succ ok y] at hin2
  have hin1 := hin.1
  have hpl : placeOf C y = (p : Int) := by rw [hYq]; exact place_at C q p hpC
  rw [hpl] at hin2
  have hlp := lenY_pos ok (flag ls (p : Int))
  have hsucc := daysTo_succ (shortOf ms) (longOf ms) ls (p : Int) ok.sorted
  have hTle := daysTo_le ok (show (p : Int) + 1 ≤ C by omega) (by omega)
  have hTb := daysTo_bound (shortOf ms) (longOf ms) ls (C : Int) (by omega) (by omega) ok.sh1 ok.sh2 ok.lo1 ok.lo2 ok.sorted (fun z hz => (ok.leaps z hz).1)
  have hpb := daysTo_bound (shortOf ms) (longOf ms) ls (p : Int) (by omega) (by omega) ok.sh1 ok.sh2 ok.lo1 ok.lo2 ok.sorted (fun z hz => (ok.leaps z hz).1)
  obtain ⟨T, hT⟩ : ∃ T, T = daysTo (shortOf ms) (longOf ms) ls C := ⟨_, rfl⟩
  rw [← hT] at hnyY hTle hTb ⊢
  rw [hnyY] at hin1 hin2
  have hq : (x - f) / T = q := div_is (x - f) T q (by omega) (by omega) (by omega)
  have hqb : -33000000 ≤ q * T ∧ q * T ≤ 8100000 := by omega
  have hqs : -33000000 ≤ q ∧ q ≤ 9000000 := by
    have := mul_abs_le' q T (by omega)
    omega
  have hqC : -33000000 ≤ q * (C : Int) ∧ q * (C : Int) ≤ 9000000 := by
    have e1 := hTb.1
    rcases Int.lt_or_le q 0 with hq0 | hq0
    · have a := Int.mul_le_mul_of_nonpos_left (show q ≤ 0 by omega) e1
      have b := Int.mul_nonneg_of_nonpos_of_nonpos (show q ≤ 0 by omega) (show -(C : Int) ≤ 0 by omega)
      rw [Int.mul_neg] at b
      omega
    · have a := Int.mul_le_mul_of_nonneg_left e1 hq0
      have b := Int.mul_nonneg hq0 (show 0 ≤ (C : Int) by omega)
      omega
  obtain ⟨qb1, qb2⟩ := hqb
  obtain ⟨qs1, qs2⟩ := hqs
  obtain ⟨qC1, qC2⟩ := hqC
  obtain ⟨T1, T2⟩ := hTb
  have T3 : T ≤ 24000000 := by omega
  have hx := inB_yes x1' x2'
  have HQ := Lib.hid hq; have HY := Lib.hid hYq; have HPL := Lib.hid hpl
  have H := Lib.hid h; have OK := Lib.hid ok; have HG := Lib.hid hg
  have HI1 := Lib.hid hin1; have HI2 := Lib.hid hin2
  have HD0 := Lib.hid (daysTo_zero (shortOf ms) (longOf ms) ls (fun z hz => (ok.leaps z hz).1))
  have HNY := Lib.hid hnyY
  clear h ok hg hin hin1 hin2 hlp hsucc hTle hpb hq hYq hpl hnyY hny hT
  go_enter Try.func62, Try.ntmps62
  go_wp2_with fail
  refine (ref_Day _ _).mono ?_; rw [hx]; rintro e w1 ⟨rfl, rfl⟩
  go_wp2_with fail
  refine (ref_Floor _ _ _ (by omega) (by omega) (by omega) (by omega)).mono ?_; rw [HQ.out]; rintro e w1 ⟨rfl, rfl⟩
  have tw := Two.new w (.cells #[.string s, .int .i64 f, .int .i64 (C : Int), .slice a1 n1 c1, .slice a2 n2 c2, .slice (some ⟨g, 0, none⟩) C C, .int .i64 (shortOf ms), .int .i64 (longOf ms), .int .i64 T] 54) (.cells #[.int .i64 0, .int .i64 0, .int .i64 0] 39)
  generalize World.alloc (World.alloc w _) _ = W1 at tw ⊢
  obtain ⟨z0, z1, z2, z3, z4, z5, z6, z7, z8⟩ := tw.years
  have t1 : IntKind.i64.wrap (q * (C : Int)) = q * (C : Int) := IntWalk.i64_in _ (by omega)
  have t2 : IntKind.i64.wrap (1 + q * (C : Int)) = 1 + q * (C : Int) := IntWalk.i64_in _ (by omega)
  have t3 : IntKind.i64.wrap (x - f) = x - f := IntWalk.i64_in _ (by omega)
  have t4 : IntKind.i64.wrap (q * T) = q * T := IntWalk.i64_in _ (by omega)
  have t5 : IntKind.i64.wrap (x - f - q * T) = x - f - q * T := IntWalk.i64_in _ (by omega)
  go_wp2_with fail
  go_quiet (fail)
  have tw1 := tw.drewN nq
  clear t1 t2 t3 t4 t5 z0 z1 z2 z3 z4 z5 z6 z7 z8 tw
  go_wp2_with fail
  go_loopw [7, 8] (fun u v wr => ∃ i : Nat, i ≤ p ∧ u = .int .i64 (1 + q * (C : Int) + (i : Int)) ∧ v = .int .i64 (x - f - q * T - daysTo (shortOf ms) (longOf ms) ls (i : Int)) ∧ Two w (.cells #[.string s, .int .i64 f, .int .i64 (C : Int), .slice a1 n1 c1, .slice a2 n2 c2, .slice (some ⟨g, 0, none⟩) C C, .int .i64 (shortOf ms), .int .i64 (longOf ms), .int .i64 T] 54) (.cells #[.int .i64 0, .int .i64 0, .int .i64 0] 39) wr) (fun u _ _ => (1 + q * (C : Int) + p - intOf u).toNat)
  case atStart => exact ⟨0, by omega, by simp, by rw [show ((0 : Nat) : Int) = 0 from rfl, HD0.out]; simp, tw1⟩
  case round =>
    clear tw1
    obtain ⟨i, hi, rfl, rfl, tw⟩ := hrel
    have hdb := daysTo_bound (shortOf ms) (longOf ms) ls (i : Int) (by omega) (by omega) OK.out.sh1 OK.out.sh2 OK.out.lo1 OK.out.lo2 OK.out.sorted (fun z hz => (OK.out.leaps z hz).1)
    obtain ⟨db1, db2⟩ := hdb
    have hds := daysTo_succ (shortOf ms) (longOf ms) ls (i : Int) OK.out.sorted
    have hpi := Lib.hid (place_at C q i (by omega))
    have hlb := lenY_pos OK.out (flag ls (i : Int))
    obtain ⟨lb1, lb2⟩ := hlb
    obtain ⟨z0, z1, z2, z3, z4, z5, z6, z7, z8⟩ := tw.years
    by_cases hlt : i < p
    · have hle := daysTo_le OK.out (show (i : Int) + 1 ≤ (p : Int) by omega) (by omega)
      have hi1 := HI1.out
      rw [hds] at hle
      have hge : lenY (shortOf ms) (longOf ms) (flag ls (i : Int)) ≤ x - f - q * T - daysTo (shortOf ms) (longOf ms) ls (i : Int) := by omega
      have HDS := Lib.hid hds
      clear hds hle hi1
      obtain ⟨Z, hZ⟩ : ∃ Z, Z = lenY (shortOf ms) (longOf ms) (flag ls (i : Int)) := ⟨_, rfl⟩
      rw [← hZ] at hge lb1 lb2 HDS
      have HZ := Lib.hid hZ; clear hZ
      generalize hDD : daysTo (shortOf ms) (longOf ms) ls (i : Int) = D at hge db1 db2 HDS ⊢
      clear hDD
      go_wp2_with fail
      refine (years_Length _ s f C a1 a2 n1 c1 n2 c2 ms ls g _ _ _ _ cy1 cy2 (by omega) (by omega) (HG.out.then_ tw.2.2)).mono ?_
      rw [hpi.out, ← HZ.out]
      rintro e w2 ⟨rfl, hb⟩
      replace tw := tw.step hb
      clear hb z0 z1 z2 z3 z4 z5 z6 z7 z8
      obtain ⟨z0, z1, z2, z3, z4, z5, z6, z7, z8⟩ := tw.years
      go_wp2_with fail
      refine (years_Length _ s f C a1 a2 n1 c1 n2 c2 ms ls g _ _ _ _ cy1 cy2 (by omega) (by omega) (HG.out.then_ tw.2.2)).mono ?_
      rw [hpi.out, ← HZ.out]
      rintro e w3 ⟨rfl, hb⟩
      replace tw := tw.step hb
      clear hb z0 z1 z2 z3 z4 z5 z6 z7 z8
      go_wp2_with fail
      go_roundw
      case rel => exact ⟨i + 1, by omega, by go_num, by rw [show ((i + 1 : Nat) : Int) = (i : Int) + 1 by omega, HDS.out]; go_num, tw⟩
      case measure => simp [intOf]; omega
    · obtain rfl : p = i := by omega
      have hi2 := HI2.out
      have hi1 := HI1.out
      have hge : x - f - q * T - daysTo (shortOf ms) (longOf ms) ls (p : Int) < lenY (shortOf ms) (longOf ms) (flag ls (p : Int)) := by omega
      have hR0 : 0 ≤ x - f - q * T - daysTo (shortOf ms) (longOf ms) ls (p : Int) := by omega
      clear hds hi1 hi2
      obtain ⟨R, hR⟩ : ∃ R, R = x - f - q * T - daysTo (shortOf ms) (longOf ms) ls (p : Int) := ⟨_, rfl⟩
      rw [← hR] at hge hR0 ⊢
      have HR := Lib.hid hR; clear hR
      obtain ⟨Z, hZ⟩ : ∃ Z, Z = lenY (shortOf ms) (longOf ms) (flag ls (p : Int)) := ⟨_, rfl⟩
      rw [← hZ] at hge lb1 lb2
      have HZ := Lib.hid hZ; clear hZ
      go_wp2_with fail
      refine (years_Length _ s f C a1 a2 n1 c1 n2 c2 ms ls g _ _ _ _ cy1 cy2 (by omega) (by omega) (HG.out.then_ tw.2.2)).mono ?_
      rw [hpi.out, ← HZ.out]
      rintro e w2 ⟨rfl, hb⟩
      replace tw := tw.step hb
      clear hb z0 z1 z2 z3 z4 z5 z6 z7 z8
      rw [← HY.out]
      go_wp2_with fail
      refine (ref_In _ _ _ _).mono ?_; rw [hy]; rintro e w3 ⟨rfl, rfl⟩
      go_wp2_with fail
      have HRL := Lib.hid (show R < lenY (shortOf ms) (longOf ms) (flag ls (placeOf C y)) by rw [HPL.out, ← HZ.out]; exact hge)
      have hKR := HK.out
      rw [show x - nyOf (shortOf ms) (longOf ms) f C ls y = R by rw [HNY.out, HR.out]; omega] at hKR
      have HKR := Lib.hid hKR; clear hKR
      have R8 : R < 8000 := by omega
      clear hge
      go_loopw [8, 9] (fun t i wr => ∃ (j : Nat) (rr : Int), i = .int .i64 ((j : Int) + 1) ∧ t = .int .i64 rr ∧ FindTo (flag ls (placeOf C y)) ms R j rr ∧ Two w (.cells #[.string s, .int .i64 f, .int .i64 (C : Int), .slice a1 n1 c1, .slice a2 n2 c2, .slice (some ⟨g, 0, none⟩) C C, .int .i64 (shortOf ms), .int .i64 (longOf ms), .int .i64 T] 54) (.cells #[.int .i64 0, .int .i64 0, .int .i64 0] 39) wr) (fun _ i _ => n1 + 1 - (intOf i).toNat)
      case atStart => exact ⟨0, R, rfl, rfl, FindTo.start _ _ _ hR0, tw⟩
      case round =>
        clear tw
        obtain ⟨j, rr, rfl, rfl, hF, tw⟩ := hrel
        have hjl := hF.in_ HRL.out
        have hjn : j < n1 := by have := L1.out; omega
        have rr0 : 0 ≤ rr := hF.2.1
        have rr1 : rr < 8000 := by
          have h1 := hF.2.2.1
          have h2 := sumM_bound OK.out.lens (flag ls (placeOf C y)) j (by omega)
          omega
        obtain ⟨m, hm⟩ : ∃ m, ms[j]? = some m := ⟨_, List.getElem?_eq_getElem hjl⟩
        obtain ⟨mb1, mb2⟩ := mlenOf_bound OK.out.lens hm (flag ls (placeOf C y))
        have HM := Lib.hid hm; have HF := Lib.hid hF
        clear hm hF hjl
        obtain ⟨ML, hML⟩ : ∃ ML, ML = mlenOf m (flag ls (placeOf C y)) := ⟨_, rfl⟩
        rw [← hML] at mb1 mb2
        have HML := Lib.hid hML; clear hML
        obtain ⟨z0, z1, z2, z3, z4, z5, z6, z7, z8⟩ := tw.years
        by_cases hlt2 : rr < ML
        · have hst := HF.out.stop HM.out (by rw [← HML.out]; exact hlt2)
          have hkj : k = j ∧ r' = rr := by have := HKR.out.symm.trans hst; simpa using this
          obtain ⟨rfl, rfl⟩ := hkj
          clear hst
          go_wp2_with fail
          refine (years_Month _ s f C a1 a2 n1 c1 n2 c2 ms ls g y _ _ _ k m cy1 cy2 (by omega) (by omega) (HG.out.then_ tw.2.2) (H.out.then_ tw.2.2) g2 HM.out).mono ?_
          rw [← HML.out]
          rintro e w4 ⟨rfl, hb⟩
          replace tw := tw.step hb
          clear hb z0 z1 z2 z3 z4 z5 z6 z7 z8
          have ar := tw.2.1
          have e0 := ar.cell 0; have e1 := ar.cell 1; have e2 := ar.cell 2; simp at e0 e1 e2
          have z0 := ar.frozen 0; have z1 := ar.frozen 1; have z2 := ar.frozen 2
          go_wp2_with fail
          have ar3 := ar.store3 (.int .i64 y) (.int .i64 ((k : Int) + 1)) (.int .i64 (r' + 1))
          have b3 := below_set3 tw.2.2 (p := w.heap.size + 1) (by omega) (.int .i64 y) (.int .i64 ((k : Int) + 1)) (.int .i64 (r' + 1))
          clear e0 e1 e2 z0 z1 z2
          generalize World.setCell (World.setCell _ _ _) _ _ = W5 at ar3 b3 ⊢
          have e0 := ar3.cell 0; have e1 := ar3.cell 1; have e2 := ar3.cell 2; simp at e0 e1 e2
          exact bodyPost_ret (v := dateAt y k r') (by simp [dateAt, results, Try.results62, go_sem, e0, e1, e2]) rfl ⟨rfl, b3⟩
        · have hnx := Lib.hid (HF.out.next HM.out (by rw [← HML.out]; exact hlt2))
          rw [← HML.out] at hnx
          go_wp2_with fail
          refine (years_Month _ s f C a1 a2 n1 c1 n2 c2 ms ls g y _ _ _ j m cy1 cy2 (by omega) (by omega) (HG.out.then_ tw.2.2) (H.out.then_ tw.2.2) g2 HM.out).mono ?_
          rw [← HML.out]
          rintro e w4 ⟨rfl, hb⟩
          replace tw := tw.step hb
          clear hb z0 z1 z2 z3 z4 z5 z6 z7 z8
          obtain ⟨z0, z1, z2, z3, z4, z5, z6, z7, z8⟩ := tw.years
          go_wp2_with fail
          refine (years_Month _ s f C a1 a2 n1 c1 n2 c2 ms ls g y _ _ _ j m cy1 cy2 (by omega) (by omega) (HG.out.then_ tw.2.2) (H.out.then_ tw.2.2) g2 HM.out).mono ?_
          rw [← HML.out]
          rintro e w5 ⟨rfl, hb⟩
          replace tw := tw.step hb
          clear hb z0 z1 z2 z3 z4 z5 z6 z7 z8
          go_wp2_with fail
          go_roundw
          case rel => exact ⟨j + 1, rr - ML, by go_num, rfl, hnx.out, tw⟩
          case measure => simp [intOf]; omega
end Go.Proofs.Ytjekdceicjnamaa
