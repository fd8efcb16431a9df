/- Contracts of zone.Check and of the reference's ZoneError. -/
import Derived.Test.YthpiiocncdpimabDoorZone1
namespace Go.Proofs.YthpiiocncdpimabDoor
set_option linter.unusedVariables false
set_option maxRecDepth 100000
open Go.RowKit

set_option maxHeartbeats 4000000 in
theorem zone_Check (w : World) (s : ByteArray) (f : Int) (a : Option Addr) (n c : Nat) (xs : List Chg) (hs : s.size ≤ 9223372036854775807) (f1 : -9223372036854775808 ≤ f) (f2 : f ≤ 9223372036854775807) (h : Changes w w.heap.size a n xs) :
    Calls Tryd.prog 14 #[.agg #[.string s, .int .i64 f, .slice a n c]] w fun e w' => e = .returned (.int .i64 (zoneErr s f xs)) ∧ Below w.heap.size w w' := by
  have L1 := Lib.hid h.len
  have m1 := h.max
  have H := Lib.hid h; clear h
  rcases Bool.eq_false_or_eq_true (isName s) with hnm | hnm
  case inr =>
    have ho := Lib.hid (show zoneErr s f xs = 5 by rw [zoneErr, if_pos hnm])
    go_enter Tryd.func14, Tryd.ntmps14
    go_wp2_with fail
    refine (rule_IsName _ _ hs).mono ?_; rw [hnm]; rintro e w1 ⟨rfl, rfl⟩
    go_wp2_with fail
    go_ret
    exact ⟨ret_int (by rw [ho.out]), by (repeat' (first | exact Below.refl _ _ | assumption | refine Below.drew ?_ | refine below_drewN ?_ _ | refine below_new ?_ _ | refine below_set ?_ ?_ _ | refine below_then ?_ (by assumption) | refine below_drawn ?_ (by assumption) | exact Nat.le_refl _ | omega | (simp; done) | (simp; omega)))⟩
  rcases Bool.eq_false_or_eq_true (offB f) with hof | hof
  case inr =>
    have ho := Lib.hid (show zoneErr s f xs = 3 by rw [zoneErr, if_neg (by rw [hnm]; simp), if_pos hof])
    go_enter Tryd.func14, Tryd.ntmps14
    go_wp2_with fail
    refine (rule_IsName _ _ hs).mono ?_; rw [hnm]; rintro e w1 ⟨rfl, rfl⟩
    go_wp2_with fail
    refine (zone_IsOffset _ _ f1 f2).mono ?_; rw [hof]; rintro e w1 ⟨rfl, rfl⟩
    go_wp2_with fail
    go_ret
    exact ⟨ret_int (by rw [ho.out]), by (repeat' (first | exact Below.refl _ _ | assumption | refine Below.drew ?_ | refine below_drewN ?_ _ | refine below_new ?_ _ | refine below_set ?_ ?_ _ | refine below_then ?_ (by assumption) | refine below_drawn ?_ (by assumption) | exact Nat.le_refl _ | omega | (simp; done) | (simp; omega)))⟩
  by_cases hn : 200 < n
  · have ho := Lib.hid (show zoneErr s f xs = 2 by rw [zoneErr, if_neg (by rw [hnm]; simp), if_neg (by rw [hof]; simp), if_pos (by rw [L1.out]; exact hn)])
    have hn' : (200 : Int) < (n : Int) := by omega
    go_enter Tryd.func14, Tryd.ntmps14
    go_wp2_with fail
    refine (rule_IsName _ _ hs).mono ?_; rw [hnm]; rintro e w1 ⟨rfl, rfl⟩
    go_wp2_with fail
    refine (zone_IsOffset _ _ f1 f2).mono ?_; rw [hof]; rintro e w1 ⟨rfl, rfl⟩
    go_wp2_with fail
    go_ret
    exact ⟨ret_int (by rw [ho.out]), by (repeat' (first | exact Below.refl _ _ | assumption | refine Below.drew ?_ | refine below_drewN ?_ _ | refine below_new ?_ _ | refine below_set ?_ ?_ _ | refine below_then ?_ (by assumption) | refine below_drawn ?_ (by assumption) | exact Nat.le_refl _ | omega | (simp; done) | (simp; omega)))⟩
  have ho := Lib.hid (show zoneErr s f xs = chgErr none xs by rw [zoneErr, if_neg (by rw [hnm]; simp), if_neg (by rw [hof]; simp), if_neg (by rw [L1.out]; exact hn)])
  have hn' : ¬ ((200 : Int) < (n : Int)) := by omega
  have hn8 : n ≤ 200 := by omega
  go_enter Tryd.func14, Tryd.ntmps14
  go_wp2_with fail
  refine (rule_IsName _ _ hs).mono ?_; rw [hnm]; rintro e w1 ⟨rfl, rfl⟩
  go_wp2_with fail
  refine (zone_IsOffset _ _ f1 f2).mono ?_; rw [hof]; rintro e w1 ⟨rfl, rfl⟩
  go_wp2_with fail
  have a0 := At.new w (.cells #[.string s, .int .i64 f, .slice a n c] 24)
  have b0 : Below w.heap.size w (w.alloc (.cells #[.string s, .int .i64 f, .slice a n c] 24)) := by (repeat' (first | exact Below.refl _ _ | assumption | refine Below.drew ?_ | refine below_drewN ?_ _ | refine below_new ?_ _ | refine below_set ?_ ?_ _ | refine below_then ?_ (by assumption) | refine below_drawn ?_ (by assumption) | exact Nat.le_refl _ | omega | (simp; done) | (simp; omega)))
  generalize World.alloc w _ = W0 at a0 b0 ⊢
  clear hn hn'
  go_loopw [3, 4, 20] (fun _ _ i wr => ∃ k : Nat, k ≤ n ∧ i = .int .i64 k ∧ chgErr (prevT xs k) (xs.drop k) = chgErr none xs ∧ At wr w.heap.size (.cells #[.string s, .int .i64 f, .slice a n c] 24) ∧ Below w.heap.size w wr) (fun _ _ i _ => n - (intOf i).toNat)
  case atStart => exact ⟨0, by omega, rfl, rfl, a0, b0⟩
  case round =>
    clear a0 b0
    obtain ⟨k, hk, rfl, hall, a0, hb⟩ := hrel
    have HA := Lib.hid hall; clear hall
    by_cases hlt : k < n
    · obtain ⟨b, off, rfl, hbB, hcs⟩ := (H.out.below hb (Nat.le_refl _)).open_ (by omega)
      obtain ⟨t, o, l, hc0, hc1, hc2, hx, t1, t2, o1, o2, hls⟩ := hcs k hlt
      have hst := Lib.hid ((congrArg (chgErr (prevT xs k)) (drop_row hx)).symm.trans HA.out)
      have HX := Lib.hid hx; clear hx
      have hz := hb.size
      have hbz : b < wr.heap.size := by omega
      have hzb : w.heap.size < wr.heap.size := a0.lt
      have HCS := Lib.hid hcs; clear hcs
      go_wp2_with fail
      have ab := At.new wr (.cells #[.int .i64 t, .int .i64 o, .string l] 35)
      replace a0 := a0.alloc (.cells #[.int .i64 t, .int .i64 o, .string l] 35)
      have hb1 := below_new hb (.cells #[.int .i64 t, .int .i64 o, .string l] 35)
      have hww : Below wr.heap.size wr (wr.alloc (.cells #[.int .i64 t, .int .i64 o, .string l] 35)) := by (repeat' (first | exact Below.refl _ _ | assumption | refine Below.drew ?_ | refine below_drewN ?_ _ | refine below_new ?_ _ | refine below_set ?_ ?_ _ | refine below_then ?_ (by assumption) | refine below_drawn ?_ (by assumption) | exact Nat.le_refl _ | omega | (simp; done) | (simp; omega)))
      generalize World.alloc wr _ = W1 at ab a0 hb1 hww ⊢
      have d0 : W1.cell? ⟨wr.heap.size, 0, none⟩ = some (.int .i64 t) := ab.cell 0
      have d1 : W1.cell? ⟨wr.heap.size, 1, none⟩ = some (.int .i64 o) := ab.cell 1
      have d2 : W1.cell? ⟨wr.heap.size, 2, none⟩ = some (.string l) := ab.cell 2
      have z2 : W1.cell? ⟨w.heap.size, 2, none⟩ = some (.slice (some ⟨b, off, none⟩) n c) := a0.cell 2
      rcases Bool.eq_false_or_eq_true (instB t) with hin | hin
      case inr =>
        have HF := Lib.hid (show zoneErr s f xs = 3 by rw [ho.out, ← hst.out, chgErr_cons, if_pos (by rw [hin]; rfl)])
        refine (line_IsInstant _ _ t1 t2).mono ?_; rw [hin]; rintro e w1 ⟨rfl, ⟨nd, rfl⟩⟩
        go_wp2_with fail
        go_ret
        exact ⟨ret_int (by rw [HF.out]), by (repeat' (first | exact Below.refl _ _ | assumption | refine Below.drew ?_ | refine below_drewN ?_ _ | refine below_new ?_ _ | refine below_set ?_ ?_ _ | refine below_then ?_ (by assumption) | refine below_drawn ?_ (by assumption) | exact Nat.le_refl _ | omega | (simp; done) | (simp; omega)))⟩
      rcases Bool.eq_false_or_eq_true (offB o) with hoo | hoo
      case inr =>
        have HF := Lib.hid (show zoneErr s f xs = 3 by rw [ho.out, ← hst.out, chgErr_cons, if_pos (by rw [hoo]; simp)])
        refine (line_IsInstant _ _ t1 t2).mono ?_; rw [hin]; rintro e w1 ⟨rfl, ⟨nd, rfl⟩⟩
        go_wp2_with fail
        refine (zone_IsOffset _ _ o1 o2).mono ?_; rw [hoo]; rintro e w1 ⟨rfl, rfl⟩
        go_wp2_with fail
        go_ret
        exact ⟨ret_int (by rw [HF.out]), by (repeat' (first | exact Below.refl _ _ | assumption | refine Below.drew ?_ | refine below_drewN ?_ _ | refine below_new ?_ _ | refine below_set ?_ ?_ _ | refine below_then ?_ (by assumption) | refine below_drawn ?_ (by assumption) | exact Nat.le_refl _ | omega | (simp; done) | (simp; omega)))⟩
      rcases Bool.eq_false_or_eq_true (labelB l) with hlb | hlb
      case inr =>
        have HF := Lib.hid (show zoneErr s f xs = 8 by rw [ho.out, ← hst.out, chgErr_cons, if_neg (by rw [hin, hoo]; simp), if_pos hlb])
        refine (line_IsInstant _ _ t1 t2).mono ?_; rw [hin]; rintro e w1 ⟨rfl, ⟨nd, rfl⟩⟩
        go_wp2_with fail
        refine (zone_IsOffset _ _ o1 o2).mono ?_; rw [hoo]; rintro e w1 ⟨rfl, rfl⟩
        go_wp2_with fail
        refine (zone_IsLabel _ _ hls).mono ?_; rw [hlb]; rintro e w2 ⟨rfl, rfl⟩
        go_wp2_with fail
        go_ret
        exact ⟨ret_int (by rw [HF.out]), by (repeat' (first | exact Below.refl _ _ | assumption | refine Below.drew ?_ | refine below_drewN ?_ _ | refine below_new ?_ _ | refine below_set ?_ ?_ _ | refine below_then ?_ (by assumption) | refine below_drawn ?_ (by assumption) | exact Nat.le_refl _ | omega | (simp; done) | (simp; omega)))⟩
      have hst1 := hst.out
      rw [chgErr_cons, if_neg (by rw [hin, hoo]; simp), if_neg (by rw [hlb]; simp)] at hst1
      have hst2 := Lib.hid hst1; clear hst1
      clear hst
      have hnext := Lib.hid (show prevT xs (k + 1) = some t by rw [prevT, HX.out]; rfl)
      refine (line_IsInstant _ _ t1 t2).mono ?_; rw [hin]; rintro e w1 ⟨rfl, ⟨nd, rfl⟩⟩
      go_wp2_with fail
      refine (zone_IsOffset _ _ o1 o2).mono ?_; rw [hoo]; rintro e w1 ⟨rfl, rfl⟩
      go_wp2_with fail
      refine (zone_IsLabel _ _ hls).mono ?_; rw [hlb]; rintro e w2 ⟨rfl, rfl⟩

      by_cases hk0 : k = 0
      · subst hk0
        go_wp2_with fail
        go_quiet (fail)
        go_wp2_with fail
        go_roundw
        case rel =>
          refine ⟨1, by omega, rfl, ?_, by exact a0, by (repeat' (first | exact Below.refl _ _ | assumption | refine Below.drew ?_ | refine below_drewN ?_ _ | refine below_new ?_ _ | refine below_set ?_ ?_ _ | refine below_then ?_ (by assumption) | refine below_drawn ?_ (by assumption) | exact Nat.le_refl _ | omega | (simp; done) | (simp; omega)))⟩
          rw [hnext.out, ← hst2.out]; rfl
        case measure => simp [intOf]; omega
      · obtain ⟨m, rfl⟩ : ∃ m, k = m + 1 := ⟨k - 1, by omega⟩
        obtain ⟨q, _, _, hc4, _, _, hx', q1, q2, _, _, _⟩ := HCS.out m (by omega)
        have p0 : W1.cell? ⟨b, off + m * 3, none⟩ = some (.int .i64 q) := (hww.cell (p := ⟨b, off + m * 3, none⟩) hbz).trans hc4
        have hprev := Lib.hid (show prevT xs (m + 1) = some q by rw [prevT, hx']; rfl)
        clear hx' hc4
        have hmn : m < n := by omega
        have hwm : IntKind.i64.wrap (m : Int) = (m : Int) := IntWalk.i64_in _ (by omega)
        by_cases hle : t ≤ q
        · have HF := Lib.hid (show zoneErr s f xs = 9 by rw [ho.out, ← hst2.out, hprev.out, if_pos (by simpa using hle)])
          go_wp2_with fail
          go_quiet (fail)
          go_wp2_with fail
          go_ret
          exact ⟨ret_int (by rw [HF.out]), by (repeat' (first | exact Below.refl _ _ | assumption | refine Below.drew ?_ | refine below_drewN ?_ _ | refine below_new ?_ _ | refine below_set ?_ ?_ _ | refine below_then ?_ (by assumption) | refine below_drawn ?_ (by assumption) | exact Nat.le_refl _ | omega | (simp; done) | (simp; omega)))⟩
        · have hgt : decide (t ≤ q) = false := by simpa using hle
          have HE := Lib.hid (show chgErr (some t) (xs.drop (m + 1 + 1)) = chgErr none xs by rw [← hst2.out, hprev.out, if_neg (by simpa using hle)])
          go_wp2_with fail
          go_quiet (fail)
          go_wp2_with fail
          go_roundw
          case rel =>
            refine ⟨m + 1 + 1, by omega, by go_num, ?_, by exact a0, by (repeat' (first | exact Below.refl _ _ | assumption | refine Below.drew ?_ | refine below_drewN ?_ _ | refine below_new ?_ _ | refine below_set ?_ ?_ _ | refine below_then ?_ (by assumption) | refine below_drawn ?_ (by assumption) | exact Nat.le_refl _ | omega | (simp; done) | (simp; omega)))⟩
            rw [hnext.out, HE.out]
          case measure => simp [intOf]; omega
    · have hfin : zoneErr s f xs = 0 := by
        rw [ho.out, ← HA.out, List.drop_eq_nil_of_le (by have := L1.out; omega), chgErr]
      have HF := Lib.hid hfin; clear hfin
      go_wp2_with fail
      go_ret
      exact ⟨ret_int (by rw [HF.out]), hb⟩

set_option maxHeartbeats 4000000 in
theorem ref_ZoneError (w : World) (s : ByteArray) (f : Int) (a : Option Addr) (n c : Nat) (xs : List Chg) (hs : s.size ≤ 9223372036854775807) (f1 : -9223372036854775808 ≤ f) (f2 : f ≤ 9223372036854775807) (h : Changes w w.heap.size a n xs) :
    Calls Tryd.prog 10 #[.agg #[.string s, .int .i64 f, .slice a n c]] w fun e w' => e = .returned (.int .i64 (zoneErr s f xs)) ∧ Below w.heap.size w w' := by
  have L1 := Lib.hid h.len
  have m1 := h.max
  have H := Lib.hid h; clear h
  rcases Bool.eq_false_or_eq_true (isName s) with hnm | hnm
  case inr =>
    have ho := Lib.hid (show zoneErr s f xs = 5 by rw [zoneErr, if_pos hnm])
    go_enter Tryd.func10, Tryd.ntmps10
    go_wp2_with fail
    refine (ref_Name _ _ hs).mono ?_; rw [hnm]; rintro e w1 ⟨rfl, rfl⟩
    go_wp2_with fail
    go_ret
    exact ⟨ret_int (by rw [ho.out]), by (repeat' (first | exact Below.refl _ _ | assumption | refine Below.drew ?_ | refine below_drewN ?_ _ | refine below_new ?_ _ | refine below_set ?_ ?_ _ | refine below_then ?_ (by assumption) | refine below_drawn ?_ (by assumption) | exact Nat.le_refl _ | omega | (simp; done) | (simp; omega)))⟩
  rcases Bool.eq_false_or_eq_true (offB f) with hof | hof
  case inr =>
    have ho := Lib.hid (show zoneErr s f xs = 3 by rw [zoneErr, if_neg (by rw [hnm]; simp), if_pos hof])
    go_enter Tryd.func10, Tryd.ntmps10
    go_wp2_with fail
    refine (ref_Name _ _ hs).mono ?_; rw [hnm]; rintro e w1 ⟨rfl, rfl⟩
    go_wp2_with fail
    refine (ref_Offset _ _ f1 f2).mono ?_; rw [hof]; rintro e w1 ⟨rfl, rfl⟩
    go_wp2_with fail
    go_ret
    exact ⟨ret_int (by rw [ho.out]), by (repeat' (first | exact Below.refl _ _ | assumption | refine Below.drew ?_ | refine below_drewN ?_ _ | refine below_new ?_ _ | refine below_set ?_ ?_ _ | refine below_then ?_ (by assumption) | refine below_drawn ?_ (by assumption) | exact Nat.le_refl _ | omega | (simp; done) | (simp; omega)))⟩
  by_cases hn : 200 < n
  · have ho := Lib.hid (show zoneErr s f xs = 2 by rw [zoneErr, if_neg (by rw [hnm]; simp), if_neg (by rw [hof]; simp), if_pos (by rw [L1.out]; exact hn)])
    have hn' : (200 : Int) < (n : Int) := by omega
    go_enter Tryd.func10, Tryd.ntmps10
    go_wp2_with fail
    refine (ref_Name _ _ hs).mono ?_; rw [hnm]; rintro e w1 ⟨rfl, rfl⟩
    go_wp2_with fail
    refine (ref_Offset _ _ f1 f2).mono ?_; rw [hof]; rintro e w1 ⟨rfl, rfl⟩
    go_wp2_with fail
    go_ret
    exact ⟨ret_int (by rw [ho.out]), by (repeat' (first | exact Below.refl _ _ | assumption | refine Below.drew ?_ | refine below_drewN ?_ _ | refine below_new ?_ _ | refine below_set ?_ ?_ _ | refine below_then ?_ (by assumption) | refine below_drawn ?_ (by assumption) | exact Nat.le_refl _ | omega | (simp; done) | (simp; omega)))⟩
  have ho := Lib.hid (show zoneErr s f xs = chgErr none xs by rw [zoneErr, if_neg (by rw [hnm]; simp), if_neg (by rw [hof]; simp), if_neg (by rw [L1.out]; exact hn)])
  have hn' : ¬ ((200 : Int) < (n : Int)) := by omega
  have hn8 : n ≤ 200 := by omega
  go_enter Tryd.func10, Tryd.ntmps10
  go_wp2_with fail
  refine (ref_Name _ _ hs).mono ?_; rw [hnm]; rintro e w1 ⟨rfl, rfl⟩
  go_wp2_with fail
  refine (ref_Offset _ _ f1 f2).mono ?_; rw [hof]; rintro e w1 ⟨rfl, rfl⟩
  go_wp2_with fail
  have a0 := At.new w (.cells #[.string s, .int .i64 f, .slice a n c] 24)
  have b0 : Below w.heap.size w (w.alloc (.cells #[.string s, .int .i64 f, .slice a n c] 24)) := by (repeat' (first | exact Below.refl _ _ | assumption | refine Below.drew ?_ | refine below_drewN ?_ _ | refine below_new ?_ _ | refine below_set ?_ ?_ _ | refine below_then ?_ (by assumption) | refine below_drawn ?_ (by assumption) | exact Nat.le_refl _ | omega | (simp; done) | (simp; omega)))
  generalize World.alloc w _ = W0 at a0 b0 ⊢
  clear hn hn'
  go_loopw [3, 4, 20] (fun _ _ i wr => ∃ k : Nat, k ≤ n ∧ i = .int .i64 k ∧ chgErr (prevT xs k) (xs.drop k) = chgErr none xs ∧ At wr w.heap.size (.cells #[.string s, .int .i64 f, .slice a n c] 24) ∧ Below w.heap.size w wr) (fun _ _ i _ => n - (intOf i).toNat)
  case atStart => exact ⟨0, by omega, rfl, rfl, a0, b0⟩
  case round =>
    clear a0 b0
    obtain ⟨k, hk, rfl, hall, a0, hb⟩ := hrel
    have HA := Lib.hid hall; clear hall
    by_cases hlt : k < n
    · obtain ⟨b, off, rfl, hbB, hcs⟩ := (H.out.below hb (Nat.le_refl _)).open_ (by omega)
      obtain ⟨t, o, l, hc0, hc1, hc2, hx, t1, t2, o1, o2, hls⟩ := hcs k hlt
      have hst := Lib.hid ((congrArg (chgErr (prevT xs k)) (drop_row hx)).symm.trans HA.out)
      have HX := Lib.hid hx; clear hx
      have hz := hb.size
      have hbz : b < wr.heap.size := by omega
      have hzb : w.heap.size < wr.heap.size := a0.lt
      have HCS := Lib.hid hcs; clear hcs
      go_wp2_with fail
      have ab := At.new wr (.cells #[.int .i64 t, .int .i64 o, .string l] 35)
      replace a0 := a0.alloc (.cells #[.int .i64 t, .int .i64 o, .string l] 35)
      have hb1 := below_new hb (.cells #[.int .i64 t, .int .i64 o, .string l] 35)
      have hww : Below wr.heap.size wr (wr.alloc (.cells #[.int .i64 t, .int .i64 o, .string l] 35)) := by (repeat' (first | exact Below.refl _ _ | assumption | refine Below.drew ?_ | refine below_drewN ?_ _ | refine below_new ?_ _ | refine below_set ?_ ?_ _ | refine below_then ?_ (by assumption) | refine below_drawn ?_ (by assumption) | exact Nat.le_refl _ | omega | (simp; done) | (simp; omega)))
      generalize World.alloc wr _ = W1 at ab a0 hb1 hww ⊢
      have d0 : W1.cell? ⟨wr.heap.size, 0, none⟩ = some (.int .i64 t) := ab.cell 0
      have d1 : W1.cell? ⟨wr.heap.size, 1, none⟩ = some (.int .i64 o) := ab.cell 1
      have d2 : W1.cell? ⟨wr.heap.size, 2, none⟩ = some (.string l) := ab.cell 2
      have z2 : W1.cell? ⟨w.heap.size, 2, none⟩ = some (.slice (some ⟨b, off, none⟩) n c) := a0.cell 2
      rcases Bool.eq_false_or_eq_true (instB t) with hin | hin
      case inr =>
        have HF := Lib.hid (show zoneErr s f xs = 3 by rw [ho.out, ← hst.out, chgErr_cons, if_pos (by rw [hin]; rfl)])
        refine (ref_InstantB _ _ t1 t2).mono ?_; rw [hin]; rintro e w1 ⟨rfl, rfl⟩
        go_wp2_with fail
        go_ret
        exact ⟨ret_int (by rw [HF.out]), by (repeat' (first | exact Below.refl _ _ | assumption | refine Below.drew ?_ | refine below_drewN ?_ _ | refine below_new ?_ _ | refine below_set ?_ ?_ _ | refine below_then ?_ (by assumption) | refine below_drawn ?_ (by assumption) | exact Nat.le_refl _ | omega | (simp; done) | (simp; omega)))⟩
      rcases Bool.eq_false_or_eq_true (offB o) with hoo | hoo
      case inr =>
        have HF := Lib.hid (show zoneErr s f xs = 3 by rw [ho.out, ← hst.out, chgErr_cons, if_pos (by rw [hoo]; simp)])
        refine (ref_InstantB _ _ t1 t2).mono ?_; rw [hin]; rintro e w1 ⟨rfl, rfl⟩
        go_wp2_with fail
        refine (ref_Offset _ _ o1 o2).mono ?_; rw [hoo]; rintro e w1 ⟨rfl, rfl⟩
        go_wp2_with fail
        go_ret
        exact ⟨ret_int (by rw [HF.out]), by (repeat' (first | exact Below.refl _ _ | assumption | refine Below.drew ?_ | refine below_drewN ?_ _ | refine below_new ?_ _ | refine below_set ?_ ?_ _ | refine below_then ?_ (by assumption) | refine below_drawn ?_ (by assumption) | exact Nat.le_refl _ | omega | (simp; done) | (simp; omega)))⟩
      rcases Bool.eq_false_or_eq_true (labelB l) with hlb | hlb
      case inr =>
        have HF := Lib.hid (show zoneErr s f xs = 8 by rw [ho.out, ← hst.out, chgErr_cons, if_neg (by rw [hin, hoo]; simp), if_pos hlb])
        refine (ref_InstantB _ _ t1 t2).mono ?_; rw [hin]; rintro e w1 ⟨rfl, rfl⟩
        go_wp2_with fail
        refine (ref_Offset _ _ o1 o2).mono ?_; rw [hoo]; rintro e w1 ⟨rfl, rfl⟩
        go_wp2_with fail
        refine (ref_Label _ _ hls).mono ?_; rw [hlb]; rintro e w2 ⟨rfl, hb2⟩
        go_wp2_with fail
        go_ret
        exact ⟨ret_int (by rw [HF.out]), by (repeat' (first | exact Below.refl _ _ | assumption | refine Below.drew ?_ | refine below_drewN ?_ _ | refine below_new ?_ _ | refine below_set ?_ ?_ _ | refine below_then ?_ (by assumption) | refine below_drawn ?_ (by assumption) | exact Nat.le_refl _ | omega | (simp; done) | (simp; omega)))⟩
      have hst1 := hst.out
      rw [chgErr_cons, if_neg (by rw [hin, hoo]; simp), if_neg (by rw [hlb]; simp)] at hst1
      have hst2 := Lib.hid hst1; clear hst1
      clear hst
      have hnext := Lib.hid (show prevT xs (k + 1) = some t by rw [prevT, HX.out]; rfl)
      refine (ref_InstantB _ _ t1 t2).mono ?_; rw [hin]; rintro e w1 ⟨rfl, rfl⟩
      go_wp2_with fail
      refine (ref_Offset _ _ o1 o2).mono ?_; rw [hoo]; rintro e w1 ⟨rfl, rfl⟩
      go_wp2_with fail
      refine (ref_Label _ _ hls).mono ?_; rw [hlb]; rintro e w2 ⟨rfl, hb2⟩
      replace a0 := a0.then_ hb2
      replace ab := ab.then_ hb2
      replace hb1 := below_then hb1 hb2
      have hw2 := below_then hww hb2
      clear d0 d1 d2 z2 hb2
      have d0 : w2.cell? ⟨wr.heap.size, 0, none⟩ = some (.int .i64 t) := ab.cell 0
      have z2 : w2.cell? ⟨w.heap.size, 2, none⟩ = some (.slice (some ⟨b, off, none⟩) n c) := a0.cell 2
      by_cases hk0 : k = 0
      · subst hk0
        go_wp2_with fail
        go_quiet (fail)
        go_wp2_with fail
        go_roundw
        case rel =>
          refine ⟨1, by omega, rfl, ?_, by exact a0, by (repeat' (first | exact Below.refl _ _ | assumption | refine Below.drew ?_ | refine below_drewN ?_ _ | refine below_new ?_ _ | refine below_set ?_ ?_ _ | refine below_then ?_ (by assumption) | refine below_drawn ?_ (by assumption) | exact Nat.le_refl _ | omega | (simp; done) | (simp; omega)))⟩
          rw [hnext.out, ← hst2.out]; rfl
        case measure => simp [intOf]; omega
      · obtain ⟨m, rfl⟩ : ∃ m, k = m + 1 := ⟨k - 1, by omega⟩
        obtain ⟨q, _, _, hc4, _, _, hx', q1, q2, _, _, _⟩ := HCS.out m (by omega)
        have p0 : w2.cell? ⟨b, off + m * 3, none⟩ = some (.int .i64 q) := (hw2.cell (p := ⟨b, off + m * 3, none⟩) hbz).trans hc4
        have hprev := Lib.hid (show prevT xs (m + 1) = some q by rw [prevT, hx']; rfl)
        clear hx' hc4
        have hmn : m < n := by omega
        have hwm : IntKind.i64.wrap (m : Int) = (m : Int) := IntWalk.i64_in _ (by omega)
        by_cases hle : t ≤ q
        · have HF := Lib.hid (show zoneErr s f xs = 9 by rw [ho.out, ← hst2.out, hprev.out, if_pos (by simpa using hle)])
          go_wp2_with fail
          go_quiet (fail)
          go_wp2_with fail
          go_ret
          exact ⟨ret_int (by rw [HF.out]), by (repeat' (first | exact Below.refl _ _ | assumption | refine Below.drew ?_ | refine below_drewN ?_ _ | refine below_new ?_ _ | refine below_set ?_ ?_ _ | refine below_then ?_ (by assumption) | refine below_drawn ?_ (by assumption) | exact Nat.le_refl _ | omega | (simp; done) | (simp; omega)))⟩
        · have hgt : decide (t ≤ q) = false := by simpa using hle
          have HE := Lib.hid (show chgErr (some t) (xs.drop (m + 1 + 1)) = chgErr none xs by rw [← hst2.out, hprev.out, if_neg (by simpa using hle)])
          go_wp2_with fail
          go_quiet (fail)
          go_wp2_with fail
          go_roundw
          case rel =>
            refine ⟨m + 1 + 1, by omega, by go_num, ?_, by exact a0, by (repeat' (first | exact Below.refl _ _ | assumption | refine Below.drew ?_ | refine below_drewN ?_ _ | refine below_new ?_ _ | refine below_set ?_ ?_ _ | refine below_then ?_ (by assumption) | refine below_drawn ?_ (by assumption) | exact Nat.le_refl _ | omega | (simp; done) | (simp; omega)))⟩
            rw [hnext.out, HE.out]
          case measure => simp [intOf]; omega
    · have hfin : zoneErr s f xs = 0 := by
        rw [ho.out, ← HA.out, List.drop_eq_nil_of_le (by have := L1.out; omega), chgErr]
      have HF := Lib.hid hfin; clear hfin
      go_wp2_with fail
      go_ret
      exact ⟨ret_int (by rw [HF.out]), hb⟩
end Go.Proofs.YthpiiocncdpimabDoor
