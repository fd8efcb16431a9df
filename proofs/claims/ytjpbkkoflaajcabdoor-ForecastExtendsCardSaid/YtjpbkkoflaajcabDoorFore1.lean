/- Contracts of forecast.Check and of the reference's ZoneRulesError. -/
import Derived.Test.YtjpbkkoflaajcabDoorFore0
namespace Go.Proofs.YtjpbkkoflaajcabDoor
set_option linter.unusedVariables false
set_option maxRecDepth 100000
open Go.RowKit

theorem rul_len {xs : List Rul} (h : ¬ (1 ≤ xs.length ∧ xs.length ≤ 4)) : rulesErr xs = 2 := by rw [rulesErr, if_pos h]
theorem rul_go {xs : List Rul} (h1 : 1 ≤ xs.length) (h2 : xs.length ≤ 4) : rulesErr xs = rulErr none xs := by rw [rulesErr, if_neg (by omega)]
theorem range_dec {lo hi x : Int} (h : inB lo hi x = true) : decide (x < lo) = false ∧ decide (hi < x) = false := by
  have := inB_iff.1 h
  simp; omega

set_option maxHeartbeats 8000000 in
theorem forecast_Check (w : World) (a : Option Addr) (n c : Nat) (xs : List Rul) (h : Rules w w.heap.size a n xs) :
    Calls Tryd.prog 28 #[.slice a n c] w fun e w' => e = .returned (.int .i64 (rulesErr xs)) ∧ Below w.heap.size w w' := by
  have L1 := Lib.hid h.len
  have hlen := h.len
  have m1 := h.max
  have H := Lib.hid h; clear h
  by_cases hn1 : (n : Int) < 1
  · have HF := Lib.hid (rul_len (xs := xs) (by omega))
    clear hlen
    go_enter Tryd.func28, Tryd.ntmps28
    go_wp2_with fail
    go_ret
    exact ⟨ret_int (by rw [HF.out]), by (repeat' (first | exact Below.refl _ _ | assumption | refine Below.drew ?_ | refine below_drewN ?_ _ | refine below_new ?_ _ | refine below_set ?_ ?_ _ | refine below_then ?_ (by assumption) | refine below_drawn ?_ (by assumption) | exact Nat.le_refl _ | omega | (simp; done) | (simp; omega)))⟩
  by_cases hn2 : (4 : Int) < n
  · have HF := Lib.hid (rul_len (xs := xs) (by omega))
    clear hlen
    go_enter Tryd.func28, Tryd.ntmps28
    go_wp2_with fail
    go_ret
    exact ⟨ret_int (by rw [HF.out]), by (repeat' (first | exact Below.refl _ _ | assumption | refine Below.drew ?_ | refine below_drewN ?_ _ | refine below_new ?_ _ | refine below_set ?_ ?_ _ | refine below_then ?_ (by assumption) | refine below_drawn ?_ (by assumption) | exact Nat.le_refl _ | omega | (simp; done) | (simp; omega)))⟩
  have ho := Lib.hid (rul_go (xs := xs) (by omega) (by omega))
  have hn4 : n ≤ 4 := by omega
  have E1 : decide ((n : Int) < 1) = false := by simpa using hn1
  have E2 : decide ((4 : Int) < n) = false := by simpa using hn2
  clear hlen hn1 hn2
  go_enter Tryd.func28, Tryd.ntmps28
  go_wp2_with fail
  go_loopw [3, 4, 15] (fun _ _ i wr => ∃ k : Nat, k ≤ n ∧ i = .int .i64 k ∧ rulErr (prevM xs k) (xs.drop k) = rulErr none xs ∧ Below w.heap.size w wr) (fun _ _ i _ => n - (intOf i).toNat)
  case atStart => exact ⟨0, by omega, rfl, rfl, Below.refl _ _⟩
  case round =>
    obtain ⟨k, hk, rfl, hall, hb⟩ := hrel
    have HA := Lib.hid hall; clear hall
    by_cases hlt : k < n
    · obtain ⟨b, off, rfl, hbB, hcs⟩ := (H.out.below hb (Nat.le_refl _)).open_ (by omega)
      obtain ⟨t, o, d, q, z, l, hc0, hc1, hc2, hc3, hc4, hc5, hx, t1, t2, o1, o2, d1, d2, q1, q2, z1, z2, hls⟩ := hcs k hlt
      have hst := Lib.hid ((congrArg (rulErr (prevM xs k)) (drop_row hx)).symm.trans HA.out)
      have HX := Lib.hid hx; clear hx
      have hz := hb.size
      have hbz : b < wr.heap.size := by omega
      have HCS := Lib.hid hcs; clear hcs
      have ab := At.new wr (.cells #[.int .i64 t, .int .i64 o, .int .i64 d, .int .i64 q, .int .i64 z, .string l] 55)
      have hb1 := below_new hb (.cells #[.int .i64 t, .int .i64 o, .int .i64 d, .int .i64 q, .int .i64 z, .string l] 55)
      have hww : Below wr.heap.size wr (wr.alloc (.cells #[.int .i64 t, .int .i64 o, .int .i64 d, .int .i64 q, .int .i64 z, .string l] 55)) := by (repeat' (first | exact Below.refl _ _ | assumption | refine Below.drew ?_ | refine below_drewN ?_ _ | refine below_new ?_ _ | refine below_set ?_ ?_ _ | refine below_then ?_ (by assumption) | refine below_drawn ?_ (by assumption) | exact Nat.le_refl _ | omega | (simp; done) | (simp; omega)))
      have AB := Lib.hid ab; have HB1 := Lib.hid hb1; have HWW := Lib.hid hww; clear ab hb1 hww
      rcases ruleB_cases t o d q z with ⟨hrb, u1, u2, u3, u4, u5⟩ | ⟨hrb, hq⟩
      case inr =>
        have HF := Lib.hid (show rulesErr xs = 3 by rw [ho.out, ← hst.out, rulErr_cons, if_pos hrb])
        have ZO := fun W => zone_IsOffset z W z1 z2
        clear hst HCS HA hrb
        rcases hq with q0 | ⟨p1, q0⟩ | ⟨p1, q0⟩ | ⟨p1, q0, q0'⟩ | ⟨p1, p2, q0⟩ | ⟨p1, p2, q0, q0'⟩ | ⟨p1, p2, p3, q0⟩ | ⟨p1, p2, p3, q0, q0'⟩ | ⟨p1, p2, p3, p4, q0⟩
        · have Dx : decide (t < 1) = true := by simp; omega
          (try clear q0'); (try clear q0); (try clear p1); (try clear p2); (try clear p3); (try clear p4)
          go_wp2_with fail
          go_ret
          exact ⟨ret_int (by rw [HF.out]), HB1.out⟩
        · have Dx : decide (t < 1) = false := by simp; omega
          have Dy : decide (12 < t) = true := by simp; omega
          (try clear q0'); (try clear q0); (try clear p1); (try clear p2); (try clear p3); (try clear p4)
          go_wp2_with fail
          go_ret
          exact ⟨ret_int (by rw [HF.out]), HB1.out⟩
        · have D0a : decide (t < 1) = false := by simp; omega
          have D0b : decide (12 < t) = false := by simp; omega
          have Dx : decide (o < 1) = true := by simp; omega
          (try clear q0'); (try clear q0); (try clear p1); (try clear p2); (try clear p3); (try clear p4)
          go_wp2_with fail
          go_ret
          exact ⟨ret_int (by rw [HF.out]), HB1.out⟩
        · have D0a : decide (t < 1) = false := by simp; omega
          have D0b : decide (12 < t) = false := by simp; omega
          have Dx : decide (o < 1) = false := by simp; omega
          have Dy : decide (5 < o) = true := by simp; omega
          (try clear q0'); (try clear q0); (try clear p1); (try clear p2); (try clear p3); (try clear p4)
          go_wp2_with fail
          go_ret
          exact ⟨ret_int (by rw [HF.out]), HB1.out⟩
        · have D0a : decide (t < 1) = false := by simp; omega
          have D0b : decide (12 < t) = false := by simp; omega
          have D1a : decide (o < 1) = false := by simp; omega
          have D1b : decide (5 < o) = false := by simp; omega
          have Dx : decide (d < 0) = true := by simp; omega
          (try clear q0'); (try clear q0); (try clear p1); (try clear p2); (try clear p3); (try clear p4)
          go_wp2_with fail
          go_ret
          exact ⟨ret_int (by rw [HF.out]), HB1.out⟩
        · have D0a : decide (t < 1) = false := by simp; omega
          have D0b : decide (12 < t) = false := by simp; omega
          have D1a : decide (o < 1) = false := by simp; omega
          have D1b : decide (5 < o) = false := by simp; omega
          have Dx : decide (d < 0) = false := by simp; omega
          have Dy : decide (6 < d) = true := by simp; omega
          (try clear q0'); (try clear q0); (try clear p1); (try clear p2); (try clear p3); (try clear p4)
          go_wp2_with fail
          go_ret
          exact ⟨ret_int (by rw [HF.out]), HB1.out⟩
        · have D0a : decide (t < 1) = false := by simp; omega
          have D0b : decide (12 < t) = false := by simp; omega
          have D1a : decide (o < 1) = false := by simp; omega
          have D1b : decide (5 < o) = false := by simp; omega
          have D2a : decide (d < 0) = false := by simp; omega
          have D2b : decide (6 < d) = false := by simp; omega
          have Dx : decide (q < 0) = true := by simp; omega
          (try clear q0'); (try clear q0); (try clear p1); (try clear p2); (try clear p3); (try clear p4)
          go_wp2_with fail
          go_ret
          exact ⟨ret_int (by rw [HF.out]), HB1.out⟩
        · have D0a : decide (t < 1) = false := by simp; omega
          have D0b : decide (12 < t) = false := by simp; omega
          have D1a : decide (o < 1) = false := by simp; omega
          have D1b : decide (5 < o) = false := by simp; omega
          have D2a : decide (d < 0) = false := by simp; omega
          have D2b : decide (6 < d) = false := by simp; omega
          have Dx : decide (q < 0) = false := by simp; omega
          have Dy : decide (86400000 ≤ q) = true := by simp; omega
          (try clear q0'); (try clear q0); (try clear p1); (try clear p2); (try clear p3); (try clear p4)
          go_wp2_with fail
          go_ret
          exact ⟨ret_int (by rw [HF.out]), HB1.out⟩
        · have D0a : decide (t < 1) = false := by simp; omega
          have D0b : decide (12 < t) = false := by simp; omega
          have D1a : decide (o < 1) = false := by simp; omega
          have D1b : decide (5 < o) = false := by simp; omega
          have D2a : decide (d < 0) = false := by simp; omega
          have D2b : decide (6 < d) = false := by simp; omega
          have D3a : decide (q < 0) = false := by simp; omega
          have D3b : decide (86400000 ≤ q) = false := by simp; omega
          (try clear q0'); rw [q0] at ZO; (try clear p1); (try clear p2); (try clear p3); (try clear p4)
          go_wp2_with fail
          refine (ZO _).mono ?_; rintro e w1 ⟨rfl, rfl⟩
          go_wp2_with fail
          go_ret
          exact ⟨ret_int (by rw [HF.out]), HB1.out⟩
      have D0a : decide (t < 1) = false := by simp; omega
      have D0b : decide (12 < t) = false := by simp; omega
      have D1a : decide (o < 1) = false := by simp; omega
      have D1b : decide (5 < o) = false := by simp; omega
      have D2a : decide (d < 0) = false := by simp; omega
      have D2b : decide (6 < d) = false := by simp; omega
      have D3a : decide (q < 0) = false := by simp; omega
      have D3b : decide (86400000 ≤ q) = false := by simp; omega
      have ZO := fun W => zone_IsOffset z W z1 z2
      rw [u5] at ZO
      clear u1 u2 u3 u4 u5
      rcases Bool.eq_false_or_eq_true (labelB l) with hlb | hlb
      case inr =>
        have HF := Lib.hid (show rulesErr xs = 8 by rw [ho.out, ← hst.out, rulErr_cons, if_neg (by rw [hrb]; simp), if_pos hlb])
        clear hst HCS HA hrb
        go_wp2_with fail
        refine (ZO _).mono ?_; rintro e w1 ⟨rfl, rfl⟩
        go_wp2_with fail
        refine (zone_IsLabel _ _ hls).mono ?_; rw [hlb]; rintro e w2 ⟨rfl, rfl⟩
        go_wp2_with fail
        go_ret
        exact ⟨ret_int (by rw [HF.out]), HB1.out⟩
      have hst1 := hst.out
      rw [rulErr_cons, if_neg (by rw [hrb]; simp), if_neg (by rw [hlb]; simp)] at hst1
      have hst2 := Lib.hid hst1; clear hst1 hst hrb HA
      have hnext := Lib.hid (show prevM xs (k + 1) = some t by rw [prevM, HX.out]; rfl)
      go_wp2_with fail
      refine (ZO _).mono ?_; rintro e w1 ⟨rfl, rfl⟩
      go_wp2_with fail
      refine (zone_IsLabel _ _ hls).mono ?_; rw [hlb]; rintro e w2 ⟨rfl, rfl⟩
      have ab2 := AB.out; have hb3 := HB1.out; have hw3 := HWW.out
      generalize World.alloc wr _ = w2 at ab2 hb3 hw3 ⊢
      have d0 : w2.cell? ⟨wr.heap.size, 0, none⟩ = some (.int .i64 t) := ab2.cell 0
      clear AB HB1 HWW
      by_cases hk0 : k = 0
      · subst hk0
        go_wp2_with fail
        go_quiet (fail)
        go_wp2_with fail
        go_roundw
        case rel =>
          refine ⟨1, by omega, rfl, ?_, by (repeat' (first | exact Below.refl _ _ | assumption | refine Below.drew ?_ | refine below_drewN ?_ _ | refine below_new ?_ _ | refine below_set ?_ ?_ _ | refine below_then ?_ (by assumption) | refine below_drawn ?_ (by assumption) | exact Nat.le_refl _ | omega | (simp; done) | (simp; omega)))⟩
          rw [hnext.out, ← hst2.out]; rfl
        case measure => simp [intOf]; omega
      · obtain ⟨m, rfl⟩ : ∃ m, k = m + 1 := ⟨k - 1, by omega⟩
        obtain ⟨y, _, _, _, _, _, hp0, _, _, _, _, _, hx', y1, y2, _⟩ := HCS.out m (by omega)
        have p0 : w2.cell? ⟨b, off + m * 6, none⟩ = some (.int .i64 y) := (hw3.cell (p := ⟨b, off + m * 6, none⟩) hbz).trans hp0
        have hprev := Lib.hid (show prevM xs (m + 1) = some y by rw [prevM, hx']; rfl)
        clear hx' hp0 HCS
        have hmn : m < n := by omega
        have hwm : IntKind.i64.wrap (m : Int) = (m : Int) := IntWalk.i64_in _ (by omega)
        by_cases hle : t ≤ y
        · have HF := Lib.hid (show rulesErr xs = 9 by rw [ho.out, ← hst2.out, hprev.out, if_pos (by simpa using hle)])
          go_wp2_with fail
          go_quiet (fail)
          go_wp2_with fail
          go_ret
          exact ⟨ret_int (by rw [HF.out]), by (repeat' (first | exact Below.refl _ _ | assumption | refine Below.drew ?_ | refine below_drewN ?_ _ | refine below_new ?_ _ | refine below_set ?_ ?_ _ | refine below_then ?_ (by assumption) | refine below_drawn ?_ (by assumption) | exact Nat.le_refl _ | omega | (simp; done) | (simp; omega)))⟩
        · have hgt : decide (t ≤ y) = false := by simpa using hle
          have HE := Lib.hid (show rulErr (some t) (xs.drop (m + 1 + 1)) = rulErr none xs by rw [← hst2.out, hprev.out, if_neg (by simpa using hle)])
          clear hle
          go_wp2_with fail
          go_quiet (fail)
          go_wp2_with fail
          go_roundw
          case rel =>
            refine ⟨m + 1 + 1, by omega, by go_num, ?_, by (repeat' (first | exact Below.refl _ _ | assumption | refine Below.drew ?_ | refine below_drewN ?_ _ | refine below_new ?_ _ | refine below_set ?_ ?_ _ | refine below_then ?_ (by assumption) | refine below_drawn ?_ (by assumption) | exact Nat.le_refl _ | omega | (simp; done) | (simp; omega)))⟩
            rw [hnext.out, HE.out]
          case measure => simp [intOf]; omega
    · have hfin : rulesErr xs = 0 := by
        rw [ho.out, ← HA.out, List.drop_eq_nil_of_le (by have := L1.out; omega), rulErr]
      have HF := Lib.hid hfin; clear hfin
      go_wp2_with fail
      go_ret
      exact ⟨ret_int (by rw [HF.out]), hb⟩

set_option maxHeartbeats 8000000 in
theorem ref_ZoneRulesError (w : World) (a : Option Addr) (n c : Nat) (xs : List Rul) (h : Rules w w.heap.size a n xs) :
    Calls Tryd.prog 16 #[.slice a n c] w fun e w' => e = .returned (.int .i64 (rulesErr xs)) ∧ Below w.heap.size w w' := by
  have L1 := Lib.hid h.len
  have hlen := h.len
  have m1 := h.max
  have H := Lib.hid h; clear h
  rcases inB_cases 1 4 (n : Int) with ⟨hb, hn1, hn2⟩ | ⟨hb, hn⟩
  case inr =>
    have HF := Lib.hid (rul_len (xs := xs) (by omega))
    clear hlen
    go_enter Tryd.func16, Tryd.ntmps16
    go_wp2_with fail
    refine (ref_In _ _ _ _).mono ?_; rw [hb]; rintro e w1 ⟨rfl, rfl⟩
    go_wp2_with fail
    go_ret
    exact ⟨ret_int (by rw [HF.out]), by (repeat' (first | exact Below.refl _ _ | assumption | refine Below.drew ?_ | refine below_drewN ?_ _ | refine below_new ?_ _ | refine below_set ?_ ?_ _ | refine below_then ?_ (by assumption) | refine below_drawn ?_ (by assumption) | exact Nat.le_refl _ | omega | (simp; done) | (simp; omega)))⟩
  have ho := Lib.hid (rul_go (xs := xs) (by omega) (by omega))
  have hn1' : 1 ≤ n := by omega
  have hn4 : n ≤ 4 := by omega
  clear hlen hn1 hn2
  go_enter Tryd.func16, Tryd.ntmps16
  go_wp2_with fail
  refine (ref_In _ _ _ _).mono ?_; rw [hb]; rintro e w1 ⟨rfl, rfl⟩
  clear hb
  go_wp2_with fail
  go_loopw [3, 4, 11] (fun _ _ i wr => ∃ k : Nat, k ≤ n ∧ i = .int .i64 k ∧ rulErr (prevM xs k) (xs.drop k) = rulErr none xs ∧ Below w.heap.size w wr) (fun _ _ i _ => n - (intOf i).toNat)
  case atStart => exact ⟨0, by omega, rfl, rfl, Below.refl _ _⟩
  case round =>
    obtain ⟨k, hk, rfl, hall, hb⟩ := hrel
    have HA := Lib.hid hall; clear hall
    by_cases hlt : k < n
    · obtain ⟨b, off, rfl, hbB, hcs⟩ := (H.out.below hb (Nat.le_refl _)).open_ (by omega)
      obtain ⟨t, o, d, q, z, l, hc0, hc1, hc2, hc3, hc4, hc5, hx, t1, t2, o1, o2, d1, d2, q1, q2, z1, z2, hls⟩ := hcs k hlt
      have hst := Lib.hid ((congrArg (rulErr (prevM xs k)) (drop_row hx)).symm.trans HA.out)
      have HX := Lib.hid hx; clear hx
      have hz := hb.size
      have hbz : b < wr.heap.size := by omega
      have HCS := Lib.hid hcs; clear hcs
      have ab := At.new wr (.cells #[.int .i64 t, .int .i64 o, .int .i64 d, .int .i64 q, .int .i64 z, .string l] 55)
      have hb1 := below_new hb (.cells #[.int .i64 t, .int .i64 o, .int .i64 d, .int .i64 q, .int .i64 z, .string l] 55)
      have hww : Below wr.heap.size wr (wr.alloc (.cells #[.int .i64 t, .int .i64 o, .int .i64 d, .int .i64 q, .int .i64 z, .string l] 55)) := by (repeat' (first | exact Below.refl _ _ | assumption | refine Below.drew ?_ | refine below_drewN ?_ _ | refine below_new ?_ _ | refine below_set ?_ ?_ _ | refine below_then ?_ (by assumption) | refine below_drawn ?_ (by assumption) | exact Nat.le_refl _ | omega | (simp; done) | (simp; omega)))
      have AB := Lib.hid ab; have HB1 := Lib.hid hb1; have HWW := Lib.hid hww; clear ab hb1 hww
      rcases ruleB_cases t o d q z with ⟨hrb, u1, u2, u3, u4, u5⟩ | ⟨hrb, hq⟩
      case inr =>
        have HF := Lib.hid (show rulesErr xs = 3 by rw [ho.out, ← hst.out, rulErr_cons, if_pos hrb])
        have ZO := fun W => ref_Offset z W z1 z2
        clear hst HCS HA hrb
        have hq5 : (inB 1 12 t = false) ∨ (inB 1 12 t = true ∧ inB 1 5 o = false) ∨ (inB 1 12 t = true ∧ inB 1 5 o = true ∧ inB 0 6 d = false) ∨ (inB 1 12 t = true ∧ inB 1 5 o = true ∧ inB 0 6 d = true ∧ inB 0 86399999 q = false) ∨ (inB 1 12 t = true ∧ inB 1 5 o = true ∧ inB 0 6 d = true ∧ inB 0 86399999 q = true ∧ offB z = false) := by
          rcases inB_cases 1 12 t with ⟨i1, j1⟩ | ⟨i1, j1⟩
          case inr => exact .inl i1
          rcases inB_cases 1 5 o with ⟨i2, j2⟩ | ⟨i2, j2⟩
          case inr => exact .inr (.inl ⟨i1, i2⟩)
          rcases inB_cases 0 6 d with ⟨i3, j3⟩ | ⟨i3, j3⟩
          case inr => exact .inr (.inr (.inl ⟨i1, i2, i3⟩))
          rcases inB_cases 0 86399999 q with ⟨i4, j4⟩ | ⟨i4, j4⟩
          case inr => exact .inr (.inr (.inr (.inl ⟨i1, i2, i3, i4⟩)))
          have : offB z = false := by
            rcases hq with x | ⟨_, x⟩ | ⟨_, x⟩ | ⟨_, _, x⟩ | ⟨_, _, x⟩ | ⟨_, _, _, x⟩ | ⟨_, _, _, x⟩ | ⟨_, _, _, _, x⟩ | ⟨_, _, _, _, x⟩ <;> first | exact x | (exfalso; omega)
          exact .inr (.inr (.inr (.inr ⟨i1, i2, i3, i4, this⟩)))
        clear hq
        rcases hq5 with i1 | ⟨i1, i2⟩ | ⟨i1, i2, i3⟩ | ⟨i1, i2, i3, i4⟩ | ⟨i1, i2, i3, i4, i5⟩
        · go_wp2_with fail
          refine (ref_In _ _ _ _).mono ?_; rw [i1]; rintro e w1 ⟨rfl, rfl⟩
          go_wp2_with fail
          go_ret
          exact ⟨ret_int (by rw [HF.out]), HB1.out⟩
        · go_wp2_with fail
          refine (ref_In _ _ _ _).mono ?_; rw [i1]; rintro e w1 ⟨rfl, rfl⟩
          go_wp2_with fail
          refine (ref_In _ _ _ _).mono ?_; rw [i2]; rintro e w1 ⟨rfl, rfl⟩
          go_wp2_with fail
          go_ret
          exact ⟨ret_int (by rw [HF.out]), HB1.out⟩
        · go_wp2_with fail
          refine (ref_In _ _ _ _).mono ?_; rw [i1]; rintro e w1 ⟨rfl, rfl⟩
          go_wp2_with fail
          refine (ref_In _ _ _ _).mono ?_; rw [i2]; rintro e w1 ⟨rfl, rfl⟩
          go_wp2_with fail
          refine (ref_In _ _ _ _).mono ?_; rw [i3]; rintro e w1 ⟨rfl, rfl⟩
          go_wp2_with fail
          go_ret
          exact ⟨ret_int (by rw [HF.out]), HB1.out⟩
        · go_wp2_with fail
          refine (ref_In _ _ _ _).mono ?_; rw [i1]; rintro e w1 ⟨rfl, rfl⟩
          go_wp2_with fail
          refine (ref_In _ _ _ _).mono ?_; rw [i2]; rintro e w1 ⟨rfl, rfl⟩
          go_wp2_with fail
          refine (ref_In _ _ _ _).mono ?_; rw [i3]; rintro e w1 ⟨rfl, rfl⟩
          go_wp2_with fail
          refine (ref_In _ _ _ _).mono ?_; rw [i4]; rintro e w1 ⟨rfl, rfl⟩
          go_wp2_with fail
          go_ret
          exact ⟨ret_int (by rw [HF.out]), HB1.out⟩
        · go_wp2_with fail
          refine (ref_In _ _ _ _).mono ?_; rw [i1]; rintro e w1 ⟨rfl, rfl⟩
          go_wp2_with fail
          refine (ref_In _ _ _ _).mono ?_; rw [i2]; rintro e w1 ⟨rfl, rfl⟩
          go_wp2_with fail
          refine (ref_In _ _ _ _).mono ?_; rw [i3]; rintro e w1 ⟨rfl, rfl⟩
          go_wp2_with fail
          refine (ref_In _ _ _ _).mono ?_; rw [i4]; rintro e w1 ⟨rfl, rfl⟩
          go_wp2_with fail
          refine (ZO _).mono ?_; rw [i5]; rintro e w1 ⟨rfl, rfl⟩
          go_wp2_with fail
          go_ret
          exact ⟨ret_int (by rw [HF.out]), HB1.out⟩
      have ZO := fun W => ref_Offset z W z1 z2
      rw [u5] at ZO
      have I1 := inB_yes u1.1 u1.2
      have I2 := inB_yes u2.1 u2.2
      have I3 := inB_yes u3.1 u3.2
      have I4 := inB_yes u4.1 u4.2
      clear u1 u2 u3 u4 u5
      rcases Bool.eq_false_or_eq_true (labelB l) with hlb | hlb
      case inr =>
        have HF := Lib.hid (show rulesErr xs = 8 by rw [ho.out, ← hst.out, rulErr_cons, if_neg (by rw [hrb]; simp), if_pos hlb])
        clear hst HCS HA hrb
        go_wp2_with fail
        refine (ref_In _ _ _ _).mono ?_; rw [I1]; rintro e w1 ⟨rfl, rfl⟩
        go_wp2_with fail
        refine (ref_In _ _ _ _).mono ?_; rw [I2]; rintro e w1 ⟨rfl, rfl⟩
        go_wp2_with fail
        refine (ref_In _ _ _ _).mono ?_; rw [I3]; rintro e w1 ⟨rfl, rfl⟩
        go_wp2_with fail
        refine (ref_In _ _ _ _).mono ?_; rw [I4]; rintro e w1 ⟨rfl, rfl⟩
        go_wp2_with fail
        refine (ZO _).mono ?_; rintro e w1 ⟨rfl, rfl⟩
        go_wp2_with fail
        refine (ref_Label _ _ hls).mono ?_; rw [hlb]; rintro e w2 ⟨rfl, hb2⟩
        go_wp2_with fail
        go_ret
        exact ⟨ret_int (by rw [HF.out]), below_then HB1.out hb2⟩
      have hst1 := hst.out
      rw [rulErr_cons, if_neg (by rw [hrb]; simp), if_neg (by rw [hlb]; simp)] at hst1
      have hst2 := Lib.hid hst1; clear hst1 hst hrb HA
      have hnext := Lib.hid (show prevM xs (k + 1) = some t by rw [prevM, HX.out]; rfl)
      go_wp2_with fail
      refine (ref_In _ _ _ _).mono ?_; rw [I1]; rintro e w1 ⟨rfl, rfl⟩
      go_wp2_with fail
      refine (ref_In _ _ _ _).mono ?_; rw [I2]; rintro e w1 ⟨rfl, rfl⟩
      go_wp2_with fail
      refine (ref_In _ _ _ _).mono ?_; rw [I3]; rintro e w1 ⟨rfl, rfl⟩
      go_wp2_with fail
      refine (ref_In _ _ _ _).mono ?_; rw [I4]; rintro e w1 ⟨rfl, rfl⟩
      go_wp2_with fail
      refine (ZO _).mono ?_; rintro e w1 ⟨rfl, rfl⟩
      go_wp2_with fail
      refine (ref_Label _ _ hls).mono ?_; rw [hlb]; rintro e w2 ⟨rfl, hb2⟩
      have ab2 := AB.out.then_ hb2
      have hb3 := below_then HB1.out hb2
      have hw3 := below_then HWW.out hb2
      clear hb2
      have d0 : w2.cell? ⟨wr.heap.size, 0, none⟩ = some (.int .i64 t) := ab2.cell 0
      clear AB HB1 HWW
      by_cases hk0 : k = 0
      · subst hk0
        go_wp2_with fail
        go_quiet (fail)
        go_wp2_with fail
        go_roundw
        case rel =>
          refine ⟨1, by omega, rfl, ?_, by (repeat' (first | exact Below.refl _ _ | assumption | refine Below.drew ?_ | refine below_drewN ?_ _ | refine below_new ?_ _ | refine below_set ?_ ?_ _ | refine below_then ?_ (by assumption) | refine below_drawn ?_ (by assumption) | exact Nat.le_refl _ | omega | (simp; done) | (simp; omega)))⟩
          rw [hnext.out, ← hst2.out]; rfl
        case measure => simp [intOf]; omega
      · obtain ⟨m, rfl⟩ : ∃ m, k = m + 1 := ⟨k - 1, by omega⟩
        obtain ⟨y, _, _, _, _, _, hp0, _, _, _, _, _, hx', y1, y2, _⟩ := HCS.out m (by omega)
        have p0 : w2.cell? ⟨b, off + m * 6, none⟩ = some (.int .i64 y) := (hw3.cell (p := ⟨b, off + m * 6, none⟩) hbz).trans hp0
        have hprev := Lib.hid (show prevM xs (m + 1) = some y by rw [prevM, hx']; rfl)
        clear hx' hp0 HCS
        have hmn : m < n := by omega
        have hwm : IntKind.i64.wrap (m : Int) = (m : Int) := IntWalk.i64_in _ (by omega)
        by_cases hle : t ≤ y
        · have HF := Lib.hid (show rulesErr xs = 9 by rw [ho.out, ← hst2.out, hprev.out, if_pos (by simpa using hle)])
          go_wp2_with fail
          go_quiet (fail)
          go_wp2_with fail
          go_ret
          exact ⟨ret_int (by rw [HF.out]), by (repeat' (first | exact Below.refl _ _ | assumption | refine Below.drew ?_ | refine below_drewN ?_ _ | refine below_new ?_ _ | refine below_set ?_ ?_ _ | refine below_then ?_ (by assumption) | refine below_drawn ?_ (by assumption) | exact Nat.le_refl _ | omega | (simp; done) | (simp; omega)))⟩
        · have hgt : decide (t ≤ y) = false := by simpa using hle
          have HE := Lib.hid (show rulErr (some t) (xs.drop (m + 1 + 1)) = rulErr none xs by rw [← hst2.out, hprev.out, if_neg (by simpa using hle)])
          clear hle
          go_wp2_with fail
          go_quiet (fail)
          go_wp2_with fail
          go_roundw
          case rel =>
            refine ⟨m + 1 + 1, by omega, by go_num, ?_, by (repeat' (first | exact Below.refl _ _ | assumption | refine Below.drew ?_ | refine below_drewN ?_ _ | refine below_new ?_ _ | refine below_set ?_ ?_ _ | refine below_then ?_ (by assumption) | refine below_drawn ?_ (by assumption) | exact Nat.le_refl _ | omega | (simp; done) | (simp; omega)))⟩
            rw [hnext.out, HE.out]
          case measure => simp [intOf]; omega
    · have hfin : rulesErr xs = 0 := by
        rw [ho.out, ← HA.out, List.drop_eq_nil_of_le (by have := L1.out; omega), rulErr]
      have HF := Lib.hid hfin; clear hfin
      go_wp2_with fail
      go_ret
      exact ⟨ret_int (by rw [HF.out]), hb⟩

end Go.Proofs.YtjpbkkoflaajcabDoor
