/- Contracts of the reference's Greg, GregDay, GregExists and of line.Day. -/
import Derived.Test.YtjpbkkoflaajcabDoorDate2
import Derived.Deep.Cut
namespace Go.Proofs.YtjpbkkoflaajcabDoor
set_option linter.unusedVariables false
set_option maxRecDepth 100000
open Go.RowKit greg

set_option maxHeartbeats 1000000 in
theorem ref_Greg (x : Int) (w : World) (h1 : -1000000000 ≤ x) (h2 : x ≤ 1000000000) :
    Calls Tryd.prog 57 #[.int .i64 x] w fun e w' => e = .returned (.agg #[.int .i64 (gY x), .int .i64 (gM x), .int .i64 (gD x)]) ∧ Below w.heap.size w w' := by
  have hn : nOf x < 146097 := by unfold nOf; omega
  have hz : (x + 305) - (x + 305) / 146097 * 146097 = (nOf x : Int) := by unfold nOf; omega
  obtain ⟨y1, y2, y3⟩ := yOf_spec (nOf x) hn
  obtain ⟨s1, _, _⟩ := years_at (yOf (nOf x)) y1
  have hr2 : rOf x < 366 := by
    unfold rOf
    rw [s1] at y3
    cases hl : leapN (yOf (nOf x) + 1) <;> rw [hl] at y3 <;> simp only [cond_true, cond_false] at y3 <;> omega
  obtain ⟨q1, q2, _, _⟩ := months_at (rOf x) hr2
  have ey : ((nOf x : Int) - (nOf x : Int) / 1460 + (nOf x : Int) / 36524 - (nOf x : Int) / 146096) / 365 = (yOf (nOf x) : Int) := by
    unfold yOf g; omega
  have er : (nOf x : Int) - (365 * (yOf (nOf x) : Int) + (yOf (nOf x) : Int) / 4 - (yOf (nOf x) : Int) / 100) = (rOf x : Int) := by
    unfold rOf; unfold greg.start at y2 ⊢; omega
  have em : (5 * (rOf x : Int) + 2) / 153 = (mR (rOf x) : Int) := by unfold mR; omega
  have ed : (rOf x : Int) - (153 * (mR (rOf x) : Int) + 2) / 5 + 1 = (dR (rOf x) : Int) := by
    have : (dR (rOf x) : Int) = (rOf x : Int) - (((153 * mR (rOf x) + 2) / 5 : Nat) : Int) + 1 := by unfold dR; omega
    rw [this]; omega
  have he : -10000 ≤ (x + 305) / 146097 ∧ (x + 305) / 146097 ≤ 10000 := by omega
  have gy : gY x = if 10 ≤ mR (rOf x) then (yOf (nOf x) : Int) + 400 * ((x + 305) / 146097) + 1 else (yOf (nOf x) : Int) + 400 * ((x + 305) / 146097) := rfl
  have gm : gM x = if 10 ≤ mR (rOf x) then (mR (rOf x) : Int) - 9 else (mR (rOf x) : Int) + 3 := rfl
  have gd : gD x = (dR (rOf x) : Int) := rfl
  rw [gy, gm, gd]
  clear gy gm gd y2 y3 s1
  obtain ⟨ee, hee⟩ : ∃ ee, ee = (x + 305) / 146097 := ⟨_, rfl⟩
  rw [← hee] at he hz ⊢
  have HEE := Lib.hid hee; clear hee
  generalize dR (rOf x) = D at *
  generalize mR (rOf x) = M at *
  generalize rOf x = R at *
  generalize yOf (nOf x) = Y at *
  generalize nOf x = n at *
  obtain ⟨e1, e2⟩ := he
  have E0 := Lib.hid hz; have E1 := Lib.hid ey; have E2 := Lib.hid er; have E3 := Lib.hid em; have E4 := Lib.hid ed
  clear hz ey er em ed
  have y3 : Y < 400 := y1
  go_enter Tryd.func57, Tryd.ntmps57
  go_wp2_with fail
  refine (ref_Floor _ _ _ (by omega) (by omega) (by omega) (by omega)).mono ?_; rintro e w1 ⟨rfl, rfl⟩
  rw [← HEE.out]
  clear HEE
  go_upto_region 4 with fail
  rw [E0.out]
  go_upto_region 5 with fail
  rw [E1.out]
  go_upto_region 6 with fail
  rw [E2.out]
  go_upto_region 7 with fail
  rw [E3.out]
  go_upto_region 8 with fail
  rw [E4.out]
  clear E0 E1 E2 E3 E4
  by_cases hm : 10 ≤ M
  · go_wp2_with fail
    refine bodyPost_ret (v := .agg #[.int .i64 ((Y : Int) + 400 * ee + 1), .int .i64 ((M : Int) - 9), .int .i64 (D : Int)]) (by simp [results, Tryd.results57, go_sem]; omega) rfl ⟨rfl, ?_⟩
    (repeat' (first | exact Below.refl _ _ | assumption | refine Below.drew ?_ | refine below_drewN ?_ _ | refine below_new ?_ _ | refine below_set ?_ ?_ _ | refine below_then ?_ (by assumption) | refine below_drawn ?_ (by assumption) | exact Nat.le_refl _ | omega | (simp; done) | (simp; omega)))
  · go_wp2_with fail
    refine bodyPost_ret (v := .agg #[.int .i64 ((Y : Int) + 400 * ee), .int .i64 ((M : Int) + 3), .int .i64 (D : Int)]) (by simp [results, Tryd.results57, go_sem]) rfl ⟨rfl, ?_⟩
    (repeat' (first | exact Below.refl _ _ | assumption | refine Below.drew ?_ | refine below_drewN ?_ _ | refine below_new ?_ _ | refine below_set ?_ ?_ _ | refine below_then ?_ (by assumption) | refine below_drawn ?_ (by assumption) | exact Nat.le_refl _ | omega | (simp; done) | (simp; omega)))

def validB (y m d : Int) : Bool := decide (1 ≤ m ∧ m ≤ 12 ∧ 1 ≤ d ∧ d ≤ (lenN (leapI y) m.toNat : Int))
theorem validB_cases (y m d : Int) : (validB y m d = true ∧ Valid y m d) ∨ (validB y m d = false ∧ ¬ Valid y m d) := by
  unfold validB Valid
  by_cases h : 1 ≤ m ∧ m ≤ 12 ∧ 1 ≤ d ∧ d ≤ (lenN (leapI y) m.toNat : Int)
  · exact .inl ⟨decide_eq_true h, h⟩
  · exact .inr ⟨decide_eq_false h, h⟩
/-- What line.Day hands back. -/
def dayOut (y m d : Int) : Value := if inB (-10000) 10000 y = false then .tuple #[.int .i64 0, .int .i64 3] else if validB y m d = false then .tuple #[.int .i64 0, .int .i64 1] else .tuple #[.int .i64 (num y m d), .int .i64 0]
def gregDay (y m d : Int) : Int := if validB y m d then num y m d else -1099511627776
theorem cum_guess : ∀ l : Bool, ∀ m : Fin 13, 1 ≤ m.val → 30 * (m.val - 1) ≤ cumN l m.val + 1 ∧ cumN l m.val ≤ 30 * (m.val - 1) + 5 := by decide +kernel
theorem num_guess (y m d : Int) (m1 : 1 ≤ m) (m2 : m ≤ 12) : ∃ k : Nat, 2 ≤ k ∧ k ≤ 8 ∧ num y m d = (NY y - 1 + 30 * (m - 1) + d - 3) + k := by
  obtain ⟨a, b⟩ := cum_guess (leapI y) ⟨m.toNat, by omega⟩ (by show 1 ≤ m.toNat; omega)
  simp only at a b
  refine ⟨(cumN (leapI y) m.toNat + 3 - 30 * (m.toNat - 1)), by omega, by omega, ?_⟩
  unfold num
  omega
/-- The date of a day is this date just if the day is the date's number. -/
theorem greg_eq (x y m d : Int) : (gY x = y ∧ gM x = m ∧ gD x = d) ↔ (Valid y m d ∧ num y m d = x) := by
  constructor
  · rintro ⟨rfl, rfl, rfl⟩
    exact greg_spec x
  · rintro ⟨h1, h2⟩
    exact greg_of x y m d h1 h2
theorem three_ne {a b c x y z : Int} (h : ¬ (a = x ∧ b = y ∧ c = z)) : (a == x) = false ∨ ((a == x) = true ∧ (b == y) = false) ∨ ((a == x) = true ∧ (b == y) = true ∧ (c == z) = false) := by
  by_cases h1 : a = x <;> by_cases h2 : b = y <;> by_cases h3 : c = z <;> simp_all
theorem three_eq {a b c x y z : Int} (h : a = x ∧ b = y ∧ c = z) : (a == x) = true ∧ (b == y) = true ∧ (c == z) = true := by simpa using h

set_option maxHeartbeats 2000000 in
theorem ref_GregDay (y m d : Int) (w : World) (y1 : -10000 ≤ y) (y2 : y ≤ 10000) (m1 : 1 ≤ m) (m2 : m ≤ 12) (d1 : 1 ≤ d) (d2 : d ≤ 31) :
    Calls Tryd.prog 44 #[.agg #[.int .i64 y, .int .i64 m, .int .i64 d]] w fun e w' => e = .returned (.int .i64 (gregDay y m d)) ∧ Below w.heap.size w w' := by
  obtain ⟨k0, k1, k2, hk⟩ := num_guess y m d m1 m2
  have hG : 365 * (y - 1) + (y - 1) / 4 - (y - 1) / 100 + (y - 1) / 400 + 30 * (m - 1) + d - 3 = NY y - 1 + 30 * (m - 1) + d - 3 := by unfold NY; omega
  have HG := Lib.hid hG
  have HK := Lib.hid hk
  have hb1 : -3700000 ≤ NY y ∧ NY y ≤ 3700000 := by unfold NY; omega
  obtain ⟨hb1, hb2⟩ := hb1
  have t1 : IntKind.i64.wrap (y - 1) = y - 1 := IntWalk.i64_in _ (by omega)
  have t2 : IntKind.i64.wrap (365 * (y - 1)) = 365 * (y - 1) := IntWalk.i64_in _ (by omega)
  have t3 : IntKind.i64.wrap (365 * (y - 1) + (y - 1) / 4) = 365 * (y - 1) + (y - 1) / 4 := IntWalk.i64_in _ (by omega)
  have t4 : IntKind.i64.wrap (365 * (y - 1) + (y - 1) / 4 - (y - 1) / 100) = 365 * (y - 1) + (y - 1) / 4 - (y - 1) / 100 := IntWalk.i64_in _ (by omega)
  have t5 : IntKind.i64.wrap (365 * (y - 1) + (y - 1) / 4 - (y - 1) / 100 + (y - 1) / 400) = 365 * (y - 1) + (y - 1) / 4 - (y - 1) / 100 + (y - 1) / 400 := IntWalk.i64_in _ (by omega)
  have t6 : IntKind.i64.wrap (m - 1) = m - 1 := IntWalk.i64_in _ (by omega)
  have t7 : IntKind.i64.wrap (30 * (m - 1)) = 30 * (m - 1) := IntWalk.i64_in _ (by omega)
  have t8 : IntKind.i64.wrap (365 * (y - 1) + (y - 1) / 4 - (y - 1) / 100 + (y - 1) / 400 + 30 * (m - 1)) = 365 * (y - 1) + (y - 1) / 4 - (y - 1) / 100 + (y - 1) / 400 + 30 * (m - 1) := IntWalk.i64_in _ (by omega)
  have t9 : IntKind.i64.wrap (365 * (y - 1) + (y - 1) / 4 - (y - 1) / 100 + (y - 1) / 400 + 30 * (m - 1) + d) = 365 * (y - 1) + (y - 1) / 4 - (y - 1) / 100 + (y - 1) / 400 + 30 * (m - 1) + d := IntWalk.i64_in _ (by omega)
  have t10 : IntKind.i64.wrap (365 * (y - 1) + (y - 1) / 4 - (y - 1) / 100 + (y - 1) / 400 + 30 * (m - 1) + d - 3) = 365 * (y - 1) + (y - 1) / 4 - (y - 1) / 100 + (y - 1) / 400 + 30 * (m - 1) + d - 3 := IntWalk.i64_in _ (by omega)
  have a1 : -9223372036854775808 ≤ y - 1 := by omega
  have a2 : y - 1 ≤ 9223372036854775807 := by omega
  clear hG hk
  go_enter Tryd.func44, Tryd.ntmps44
  go_wp2_with fail
  go_quiet ((go_at_call 38; exact quiet_left (ref_Floor _ _ _ a1 a2 (by decide) (by decide))))
  clear t1 t2 t3 t4 t5 t6 t7 t8 t9 t10 a1 a2
  go_wp2_with fail
  rw [HG.out]
  generalize hX : NY y - 1 + 30 * (m - 1) + d - 3 = X at HK
  have hXb : -4000000 ≤ X ∧ X ≤ 4000000 := by omega
  obtain ⟨X1, X2⟩ := hXb
  clear hX HG hb1 hb2
  have hat : At ((w.alloc (.cells #[.int .i64 y, .int .i64 m, .int .i64 d] 63)).drewN nq) w.heap.size (.cells #[.int .i64 y, .int .i64 m, .int .i64 d] 63) := (At.new w _).drewN _
  have hbe : Below w.heap.size w ((w.alloc (.cells #[.int .i64 y, .int .i64 m, .int .i64 d] 63)).drewN nq) := by (repeat' (first | exact Below.refl _ _ | assumption | refine Below.drew ?_ | refine below_drewN ?_ _ | refine below_new ?_ _ | refine below_set ?_ ?_ _ | refine below_then ?_ (by assumption) | refine below_drawn ?_ (by assumption) | exact Nat.le_refl _ | omega | (simp; done) | (simp; omega)))
  go_loopw [4] (fun i wr => ∃ k : Nat, k ≤ 12 ∧ i = .int .i64 k ∧ (validB y m d = true → k ≤ k0) ∧ At wr w.heap.size (.cells #[.int .i64 y, .int .i64 m, .int .i64 d] 63) ∧ Below w.heap.size w wr) (fun i _ => 12 - (intOf i).toNat)
  case atStart => exact ⟨0, by omega, rfl, fun _ => by omega, hat, hbe⟩
  case round =>
    clear hat hbe
    obtain ⟨k, hk12, rfl, hkv, a0, b0⟩ := hrel
    have HKV := Lib.hid hkv; clear hkv
    by_cases hlt : k < 12
    · have c0 := a0.cell 0; have c1 := a0.cell 1; have c2 := a0.cell 2
      simp at c0 c1 c2
      have hlw := a0.lt
      have t1 : IntKind.i64.wrap (X + (k : Int)) = X + (k : Int) := IntWalk.i64_in _ (by omega)
      have hx1 : -1000000000 ≤ X + (k : Int) := by omega
      have hx2 : X + (k : Int) ≤ 1000000000 := by omega
      have HGE := Lib.hid (greg_eq (X + (k : Int)) y m d)
      by_cases hv : validB y m d = true ∧ k = k0
      · have hVal : Valid y m d := by
          rcases validB_cases y m d with ⟨_, h⟩ | ⟨h, _⟩
          · exact h
          · rw [h] at hv; exact absurd hv.1 (by simp)
        obtain ⟨u1, u2, u3⟩ := three_eq (HGE.out.2 ⟨hVal, by rw [HK.out, hv.2]⟩)
        have hout := Lib.hid (show gregDay y m d = X + (k : Int) by unfold gregDay; rw [hv.1, HK.out, hv.2]; rfl)
        clear hv hVal
        go_wp2_with fail
        go_region_held3 (fun w' => w'.cell? ⟨w.heap.size, 0, none⟩ = some (.int .i64 y) ∧ w'.cell? ⟨w.heap.size, 1, none⟩ = some (.int .i64 m) ∧ w'.cell? ⟨w.heap.size, 2, none⟩ = some (.int .i64 d) ∧ Below wr.heap.size wr w')
          (first | exact ⟨c0, c1, c2, (Below.refl _ _).drew⟩ | exact keep3 (by assumption) (by assumption) (by omega))
          (first | (go_at_call 57; refine (ref_Greg _ _ hx1 hx2).mono ?_; rintro e w' ⟨rfl, hb⟩))
        have hk2 := last3 (show _ ∧ _ ∧ _ ∧ Below wr.heap.size wr w' from by assumption)
        go_wp2_with fail
        go_ret
        exact ⟨ret_int (by rw [hout.out]), below_then b0 hk2⟩
      · have hne : ¬ (gY (X + (k : Int)) = y ∧ gM (X + (k : Int)) = m ∧ gD (X + (k : Int)) = d) := by
          intro h
          obtain ⟨h1, h2⟩ := HGE.out.1 h
          rcases validB_cases y m d with ⟨hb, _⟩ | ⟨_, hb⟩
          · have h3 := HK.out
            exact hv ⟨hb, by omega⟩
          · exact hb h1
        have hne3 := three_ne hne
        have hkn := Lib.hid (show validB y m d = true → k + 1 ≤ k0 from fun h => by have := HKV.out h; rcases Nat.lt_or_ge k k0 with q | q; exact q; exact absurd ⟨h, by omega⟩ hv)
        clear hne hv
        rcases hne3 with u1 | ⟨u1, u2⟩ | ⟨u1, u2, u3⟩
        all_goals
          go_wp2_with fail
          go_region_held3 (fun w' => w'.cell? ⟨w.heap.size, 0, none⟩ = some (.int .i64 y) ∧ w'.cell? ⟨w.heap.size, 1, none⟩ = some (.int .i64 m) ∧ w'.cell? ⟨w.heap.size, 2, none⟩ = some (.int .i64 d) ∧ Below wr.heap.size wr w')
            (first | exact ⟨c0, c1, c2, (Below.refl _ _).drew⟩ | exact keep3 (by assumption) (by assumption) (by omega))
            (first | (go_at_call 57; refine (ref_Greg _ _ hx1 hx2).mono ?_; rintro e w' ⟨rfl, hb⟩))
          have hk2 := last3 (show _ ∧ _ ∧ _ ∧ Below wr.heap.size wr w' from by assumption)
          go_wp2_with fail
          go_roundw
          case rel => exact ⟨k + 1, by omega, by go_num, hkn.out, a0.then_ hk2, below_then b0 hk2⟩
          case measure => simp [intOf]; omega
    · have hvf : validB y m d = false := by
        cases hh : validB y m d with
        | false => rfl
        | true => have := HKV.out hh; omega
      have hout := Lib.hid (show gregDay y m d = -1099511627776 by unfold gregDay; rw [hvf]; rfl)
      clear hvf
      go_wp2_with fail
      go_ret
      exact ⟨ret_int (by rw [hout.out]), b0⟩
theorem num_bound (y m d : Int) (y1 : -10000 ≤ y) (y2 : y ≤ 10000) (h : Valid y m d) : -4000000 ≤ num y m d ∧ num y m d ≤ 4000000 := by
  obtain ⟨a, b⟩ := num_in y m d h
  have h1 := NY_mono (-10000) y y1
  have h2 := NY_mono (y + 1) 10001 (by omega)
  have h3 : NY (-10000) = -3652790 := by decide
  have h4 : NY 10001 = 3652426 := by decide
  omega
theorem ref_GregExists (y m d : Int) (w : World) (y1 : -10000 ≤ y) (y2 : y ≤ 10000) (d1 : 1 ≤ d) (d2 : d ≤ 31) :
    Calls Tryd.prog 42 #[.agg #[.int .i64 y, .int .i64 m, .int .i64 d]] w fun e w' => e = .returned (.bool (validB y m d)) ∧ Below w.heap.size w w' := by
  by_cases m1 : 1 ≤ m
  · by_cases m2 : m ≤ 12
    · have hval : decide (-549755813888 < gregDay y m d) = validB y m d := by
        rcases validB_cases y m d with ⟨h, hv⟩ | ⟨h, _⟩
        · have := num_bound y m d y1 y2 hv
          unfold gregDay; rw [h, if_pos rfl]; simp; omega
        · unfold gregDay; rw [h, if_neg (by simp)]; rfl
      have HV := Lib.hid hval; clear hval
      go_enter Tryd.func42, Tryd.ntmps42
      go_wp2_with fail
      refine (ref_GregDay _ _ _ _ y1 y2 m1 m2 d1 d2).mono ?_; rintro e w1 ⟨rfl, hb⟩
      generalize gregDay y m d = G at HV ⊢
      go_wp2_with fail
      go_ret
      exact ⟨ret_bool HV.out, by (repeat' (first | exact Below.refl _ _ | assumption | refine Below.drew ?_ | refine below_drewN ?_ _ | refine below_new ?_ _ | refine below_set ?_ ?_ _ | refine below_then ?_ (by assumption) | refine below_drawn ?_ (by assumption) | exact Nat.le_refl _ | omega | (simp; done) | (simp; omega)))⟩
    · have hv := Lib.hid (show validB y m d = false from decide_eq_false (by omega))
      go_enter Tryd.func42, Tryd.ntmps42
      go_wp2_with fail
      go_ret
      exact ⟨ret_bool (by rw [hv.out]), by (repeat' (first | exact Below.refl _ _ | assumption | refine Below.drew ?_ | refine below_drewN ?_ _ | refine below_new ?_ _ | refine below_set ?_ ?_ _ | refine below_then ?_ (by assumption) | refine below_drawn ?_ (by assumption) | exact Nat.le_refl _ | omega | (simp; done) | (simp; omega)))⟩
  · have hv := Lib.hid (show validB y m d = false from decide_eq_false (by omega))
    go_enter Tryd.func42, Tryd.ntmps42
    go_wp2_with fail
    go_ret
    exact ⟨ret_bool (by rw [hv.out]), by (repeat' (first | exact Below.refl _ _ | assumption | refine Below.drew ?_ | refine below_drewN ?_ _ | refine below_new ?_ _ | refine below_set ?_ ?_ _ | refine below_then ?_ (by assumption) | refine below_drawn ?_ (by assumption) | exact Nat.le_refl _ | omega | (simp; done) | (simp; omega)))⟩
theorem slice12 (b k : Nat) (hk : k ≤ 12) (W : World) : (Instr.sliceAt 75 (.pointer (some ⟨b, 0, none⟩)) none (some (.int .i64 (k : Int))) none).run Tryd.prog W = .ok (.slice (some ⟨b, 0, none⟩) k 12) W := by
  have h12 : Tryd.prog.arrayLen 75 = 12 := by kernel_rfl
  rw [run_sliceAt_array_h W 75 ⟨b, 0, none⟩ (by kernel_rfl) .i64 k (by omega) (by rw [h12]; omega), h12]
  simp [slicedAt, go_sem, Addr.add]
set_option maxHeartbeats 2000000 in
theorem line_Day (y m d : Int) (w : World) (m1 : -9223372036854775808 ≤ m) (m2 : m ≤ 9223372036854775807) (d1 : -9223372036854775808 ≤ d) (d2 : d ≤ 9223372036854775807) :
    Calls Tryd.prog 53 #[.agg #[.int .i64 y, .int .i64 m, .int .i64 d]] w fun e w' => e = .returned (dayOut y m d) ∧ Below w.heap.size w w' := by
  rcases inB_cases (-10000) 10000 y with ⟨hy, y1, y2⟩ | ⟨hy, hy'⟩
  case inr =>
    have ho := Lib.hid (show dayOut y m d = .tuple #[.int .i64 0, .int .i64 3] by rw [dayOut, if_pos hy])
    have hq : y < -10000 ∨ (-10000 ≤ y ∧ 10000 < y) := by omega
    clear hy hy'
    rcases hq with q | ⟨q, q'⟩
    all_goals
      go_enter Tryd.func53, Tryd.ntmps53
      go_wp2_with fail
      go_ret2
      exact ⟨by rw [ho.out]; rfl, by (repeat' (first | exact Below.refl _ _ | assumption | refine Below.drew ?_ | refine below_drewN ?_ _ | refine below_new ?_ _ | refine below_set ?_ ?_ _ | refine below_then ?_ (by assumption) | refine below_drawn ?_ (by assumption) | exact Nat.le_refl _ | omega | (simp; done) | (simp; omega)))⟩
  have hyn : ¬ inB (-10000) 10000 y = false := by rw [hy]; simp
  rcases validB_cases y m d with ⟨hv, hV⟩ | ⟨hv, hV⟩
  case inr =>
    have ho := Lib.hid (show dayOut y m d = .tuple #[.int .i64 0, .int .i64 1] by rw [dayOut, if_neg hyn, if_pos hv])
    clear hv hyn
    have hq : m < 1 ∨ (1 ≤ m ∧ 12 < m) ∨ (1 ≤ m ∧ m ≤ 12 ∧ d < 1) ∨ (1 ≤ m ∧ m ≤ 12 ∧ 1 ≤ d ∧ (lenN (leapI y) m.toNat : Int) < d) := by
      unfold Valid at hV; omega
    clear hV
    rcases hq with q | ⟨q1, q2⟩ | ⟨q1, q2, q3⟩ | ⟨q1, q2, q3, q4⟩
    · have g1 : decide (m < 1) = true := by simpa using q
      go_enter Tryd.func53, Tryd.ntmps53
      go_wp2_with fail
      refine (line_Lengths _ _ (by omega) (by omega)).mono ?_; rintro e w1 ⟨rfl, hb⟩
      have a0 : At w1 w.heap.size (.cells #[.int .i64 y, .int .i64 m, .int .i64 d] 63) := (At.new w _).then_ hb
      have b0 : Below w.heap.size w w1 := by (repeat' (first | exact Below.refl _ _ | assumption | refine Below.drew ?_ | refine below_drewN ?_ _ | refine below_new ?_ _ | refine below_set ?_ ?_ _ | refine below_then ?_ (by assumption) | refine below_drawn ?_ (by assumption) | exact Nat.le_refl _ | omega | (simp; done) | (simp; omega)))
      have hlt := a0.lt
      clear hb
      go_wp2_with fail
      have A0 := a0.alloc (.cells (lensA (leapI y)) 75)
      have A1 := At.new w1 (.cells (lensA (leapI y)) 75)
      have B0 := below_new b0 (.cells (lensA (leapI y)) 75)
      unfold lensA at A0 A1 B0
      generalize World.alloc w1 _ = W2 at A0 A1 B0 ⊢
      have c0 := A0.cell 0; have c1 := A0.cell 1; have c2 := A0.cell 2
      simp at c0 c1 c2
      clear a0 b0
      go_quiet (fail)
      go_wp2_with fail
      go_ret2
      exact ⟨by rw [ho.out]; rfl, by (repeat' (first | exact Below.refl _ _ | assumption | refine Below.drew ?_ | refine below_drewN ?_ _ | refine below_new ?_ _ | refine below_set ?_ ?_ _ | refine below_then ?_ (by assumption) | refine below_drawn ?_ (by assumption) | exact Nat.le_refl _ | omega | (simp; done) | (simp; omega)))⟩
    · have g1 : decide (m < 1) = false := by simp; omega
      have g2 : decide (12 < m) = true := by simpa using q2
      go_enter Tryd.func53, Tryd.ntmps53
      go_wp2_with fail
      refine (line_Lengths _ _ (by omega) (by omega)).mono ?_; rintro e w1 ⟨rfl, hb⟩
      have a0 : At w1 w.heap.size (.cells #[.int .i64 y, .int .i64 m, .int .i64 d] 63) := (At.new w _).then_ hb
      have b0 : Below w.heap.size w w1 := by (repeat' (first | exact Below.refl _ _ | assumption | refine Below.drew ?_ | refine below_drewN ?_ _ | refine below_new ?_ _ | refine below_set ?_ ?_ _ | refine below_then ?_ (by assumption) | refine below_drawn ?_ (by assumption) | exact Nat.le_refl _ | omega | (simp; done) | (simp; omega)))
      have hlt := a0.lt
      clear hb
      go_wp2_with fail
      have A0 := a0.alloc (.cells (lensA (leapI y)) 75)
      have A1 := At.new w1 (.cells (lensA (leapI y)) 75)
      have B0 := below_new b0 (.cells (lensA (leapI y)) 75)
      unfold lensA at A0 A1 B0
      generalize World.alloc w1 _ = W2 at A0 A1 B0 ⊢
      have c0 := A0.cell 0; have c1 := A0.cell 1; have c2 := A0.cell 2
      simp at c0 c1 c2
      clear a0 b0
      go_quiet (fail)
      go_wp2_with fail
      go_ret2
      exact ⟨by rw [ho.out]; rfl, by (repeat' (first | exact Below.refl _ _ | assumption | refine Below.drew ?_ | refine below_drewN ?_ _ | refine below_new ?_ _ | refine below_set ?_ ?_ _ | refine below_then ?_ (by assumption) | refine below_drawn ?_ (by assumption) | exact Nat.le_refl _ | omega | (simp; done) | (simp; omega)))⟩
    · have g1 : decide (m < 1) = false := by simp; omega
      have g2 : decide (12 < m) = false := by simp; omega
      have g3 : decide (d < 1) = true := by simpa using q3
      go_enter Tryd.func53, Tryd.ntmps53
      go_wp2_with fail
      refine (line_Lengths _ _ (by omega) (by omega)).mono ?_; rintro e w1 ⟨rfl, hb⟩
      have a0 : At w1 w.heap.size (.cells #[.int .i64 y, .int .i64 m, .int .i64 d] 63) := (At.new w _).then_ hb
      have b0 : Below w.heap.size w w1 := by (repeat' (first | exact Below.refl _ _ | assumption | refine Below.drew ?_ | refine below_drewN ?_ _ | refine below_new ?_ _ | refine below_set ?_ ?_ _ | refine below_then ?_ (by assumption) | refine below_drawn ?_ (by assumption) | exact Nat.le_refl _ | omega | (simp; done) | (simp; omega)))
      have hlt := a0.lt
      clear hb
      go_wp2_with fail
      have A0 := a0.alloc (.cells (lensA (leapI y)) 75)
      have A1 := At.new w1 (.cells (lensA (leapI y)) 75)
      have B0 := below_new b0 (.cells (lensA (leapI y)) 75)
      unfold lensA at A0 A1 B0
      generalize World.alloc w1 _ = W2 at A0 A1 B0 ⊢
      have c0 := A0.cell 0; have c1 := A0.cell 1; have c2 := A0.cell 2
      simp at c0 c1 c2
      clear a0 b0
      go_quiet (fail)
      go_wp2_with fail
      go_ret2
      exact ⟨by rw [ho.out]; rfl, by (repeat' (first | exact Below.refl _ _ | assumption | refine Below.drew ?_ | refine below_drewN ?_ _ | refine below_new ?_ _ | refine below_set ?_ ?_ _ | refine below_then ?_ (by assumption) | refine below_drawn ?_ (by assumption) | exact Nat.le_refl _ | omega | (simp; done) | (simp; omega)))⟩
    · have g1 : decide (m < 1) = false := by simp; omega
      have g2 : decide (12 < m) = false := by simp; omega
      have g3 : decide (d < 1) = false := by simp; omega
      go_enter Tryd.func53, Tryd.ntmps53
      go_wp2_with fail
      refine (line_Lengths _ _ (by omega) (by omega)).mono ?_; rintro e w1 ⟨rfl, hb⟩
      have a0 : At w1 w.heap.size (.cells #[.int .i64 y, .int .i64 m, .int .i64 d] 63) := (At.new w _).then_ hb
      have b0 : Below w.heap.size w w1 := by (repeat' (first | exact Below.refl _ _ | assumption | refine Below.drew ?_ | refine below_drewN ?_ _ | refine below_new ?_ _ | refine below_set ?_ ?_ _ | refine below_then ?_ (by assumption) | refine below_drawn ?_ (by assumption) | exact Nat.le_refl _ | omega | (simp; done) | (simp; omega)))
      have hlt := a0.lt
      clear hb
      go_wp2_with fail
      have A0 := a0.alloc (.cells (lensA (leapI y)) 75)
      have A1 := At.new w1 (.cells (lensA (leapI y)) 75)
      have B0 := below_new b0 (.cells (lensA (leapI y)) 75)
      unfold lensA at A0 A1 B0
      generalize World.alloc w1 _ = W2 at A0 A1 B0 ⊢
      have c0 := A0.cell 0; have c1 := A0.cell 1; have c2 := A0.cell 2
      simp at c0 c1 c2
      clear a0 b0
      obtain ⟨k, rfl⟩ : ∃ k : Nat, m = k + 1 := ⟨(m - 1).toNat, by omega⟩
      have hrd := (A1.cell k).trans (lensA_at (leapI y) k (by omega))
      rw [show ((k : Int) + 1).toNat = k + 1 by omega] at q4
      have t1 : IntKind.i64.wrap (k : Int) = (k : Int) := IntWalk.i64_in _ (by omega)
      have k12 : k < 12 := by omega
      generalize (lenN (leapI y) (k + 1) : Int) = L at hrd q4
      go_quiet (fail)
      go_wp2_with fail
      go_ret2
      exact ⟨by rw [ho.out]; rfl, by (repeat' (first | exact Below.refl _ _ | assumption | refine Below.drew ?_ | refine below_drewN ?_ _ | refine below_new ?_ _ | refine below_set ?_ ?_ _ | refine below_then ?_ (by assumption) | refine below_drawn ?_ (by assumption) | exact Nat.le_refl _ | omega | (simp; done) | (simp; omega)))⟩
  have ho := Lib.hid (show dayOut y m d = .tuple #[.int .i64 (num y m d), .int .i64 0] by rw [dayOut, if_neg hyn, if_neg (by rw [hv]; simp)])
  have hnb := num_bound y m d y1 y2 hV
  obtain ⟨q1, q2, q3, q4⟩ := hV
  clear hv hyn hy
  have g1 : decide (m < 1) = false := by simp; omega
  have g2 : decide (12 < m) = false := by simp; omega
  have g3 : decide (d < 1) = false := by simp; omega
  go_enter Tryd.func53, Tryd.ntmps53
  go_wp2_with fail
  refine (line_Lengths _ _ (by omega) (by omega)).mono ?_; rintro e w1 ⟨rfl, hb⟩
  have a0 : At w1 w.heap.size (.cells #[.int .i64 y, .int .i64 m, .int .i64 d] 63) := (At.new w _).then_ hb
  have b0 : Below w.heap.size w w1 := by (repeat' (first | exact Below.refl _ _ | assumption | refine Below.drew ?_ | refine below_drewN ?_ _ | refine below_new ?_ _ | refine below_set ?_ ?_ _ | refine below_then ?_ (by assumption) | refine below_drawn ?_ (by assumption) | exact Nat.le_refl _ | omega | (simp; done) | (simp; omega)))
  have hlt := a0.lt
  clear hb
  go_wp2_with fail
  have A0 := a0.alloc (.cells (lensA (leapI y)) 75)
  have A1 := At.new w1 (.cells (lensA (leapI y)) 75)
  have B0 := below_new b0 (.cells (lensA (leapI y)) 75)
  unfold lensA at A0 A1 B0
  generalize World.alloc w1 _ = W2 at A0 A1 B0 ⊢
  have c0 := A0.cell 0; have c1 := A0.cell 1; have c2 := A0.cell 2
  simp at c0 c1 c2
  clear a0 b0
  obtain ⟨k, rfl⟩ : ∃ k : Nat, m = k + 1 := ⟨(m - 1).toNat, by omega⟩
  have hrd := (A1.cell k).trans (lensA_at (leapI y) k (by omega))
  have hkk : ((k : Int) + 1).toNat = k + 1 := by omega
  rw [hkk] at q4
  have t1 : IntKind.i64.wrap (k : Int) = (k : Int) := IntWalk.i64_in _ (by omega)
  have k12 : k < 12 := by omega
  have hnum := Lib.hid (show num y (k + 1 : Int) d = NY y + d - 1 + (cumN (leapI y) (k + 1) : Int) by unfold num; rw [hkk]; omega)
  have hd31 : d ≤ 31 := by
    have : lenN (leapI y) (k + 1) ≤ 31 := by
      unfold lenN
      cases Nat.beq (k + 1) 2 <;> cases leapI y <;> cases (Nat.beq (k + 1) 4 || Nat.beq (k + 1) 6 || Nat.beq (k + 1) 9 || Nat.beq (k + 1) 11) <;> simp
    omega
  have HA1 := Lib.hid A1
  have hNb : -3700000 ≤ NY y ∧ NY y ≤ 3700000 := by unfold NY; omega
  obtain ⟨n1, n2⟩ := hNb
  have hLd : ¬ (lenN (leapI y) (k + 1) : Int) < d := by omega
  have hLd' : decide ((lenN (leapI y) (k + 1) : Int) < d) = false := by simp; omega
  clear hkk A1 hnb
  go_quiet (fail)
  clear hrd hLd hLd' q4
  go_wp2_with fail
  have t2 : IntKind.i64.wrap (NY y + d) = NY y + d := IntWalk.i64_in _ (by omega)
  have t3 : IntKind.i64.wrap (NY y + d - 1) = NY y + d - 1 := IntWalk.i64_in _ (by omega)
  have t4 : -1000000 ≤ y := by omega
  have t5 : y ≤ 1000000 := by omega
  go_quiet ((go_at_call 62; exact quiet_add (line_NewYear _ _ t4 t5)))
  clear t2 t3 t4 t5
  have hsl := fun W => slice12 w1.heap.size k (by omega) W
  go_wp2_with fail
  clear hsl
  go_loop [5, 7, 54] (fun o _ i => ∃ j : Nat, j ≤ k ∧ i = .int .i64 j ∧ o = .int .i64 (NY y + d - 1 + (cumN (leapI y) (j + 1) : Int)) ∧ cumN (leapI y) (j + 1) ≤ 31 * j) (fun _ _ i => k - (intOf i).toNat)
  case atStart => exact ⟨0, by omega, rfl, by simp [cumN], by simp [cumN]⟩
  case round =>
    obtain ⟨j, hj, rfl, rfl, hcb⟩ := hrel
    have hcn := cumN_next (leapI y) j
    have HCN := Lib.hid hcn; clear hcn
    have hl31 : lenN (leapI y) (j + 1) ≤ 31 := by
      unfold lenN
      cases Nat.beq (j + 1) 2 <;> cases leapI y <;> cases (Nat.beq (j + 1) 4 || Nat.beq (j + 1) 6 || Nat.beq (j + 1) 9 || Nat.beq (j + 1) 11) <;> simp
    by_cases hlt2 : j < k
    · have hrd := (HA1.out.cell j).trans (lensA_at (leapI y) j (by omega))
      have hnx := Lib.hid (show NY y + d - 1 + (cumN (leapI y) (j + 1) : Int) + (lenN (leapI y) (j + 1) : Int) = NY y + d - 1 + (cumN (leapI y) (j + 1 + 1) : Int) by rw [HCN.out]; omega)
      have hcb2 := Lib.hid (show cumN (leapI y) (j + 1 + 1) ≤ 31 * (j + 1) by rw [HCN.out]; omega)
      have hC0 : 0 ≤ (cumN (leapI y) (j + 1) : Int) := by omega
      have hC1 : (cumN (leapI y) (j + 1) : Int) ≤ 400 := by omega
      have hL0 : 0 ≤ (lenN (leapI y) (j + 1) : Int) := by omega
      have hL1 : (lenN (leapI y) (j + 1) : Int) ≤ 400 := by omega
      generalize (lenN (leapI y) (j + 1) : Int) = L at hrd hnx hL0 hL1
      generalize (cumN (leapI y) (j + 1) : Int) = C at hnx hC0 hC1 ⊢
      clear hcb hl31
      go_wp2_with fail
      go_round
      case rel => exact ⟨j + 1, by omega, by go_num, by rw [← hnx.out], hcb2.out⟩
      case measure => simp [intOf]; omega
    · have : j = k := by omega
      subst this
      have hnb : -9000000 ≤ NY y + d - 1 + (cumN (leapI y) (j + 1) : Int) ∧ NY y + d - 1 + (cumN (leapI y) (j + 1) : Int) ≤ 9000000 := by omega
      rw [← hnum.out] at hnb ⊢
      generalize num y (j + 1 : Int) d = NN at ho hnb ⊢
      go_wp2_with fail
      go_ret2
      exact ⟨by rw [ho.out]; rfl, by (repeat' (first | exact Below.refl _ _ | assumption | refine Below.drew ?_ | refine below_drewN ?_ _ | refine below_new ?_ _ | refine below_set ?_ ?_ _ | refine below_then ?_ (by assumption) | refine below_drawn ?_ (by assumption) | exact Nat.le_refl _ | omega | (simp; done) | (simp; omega)))⟩
end Go.Proofs.YtjpbkkoflaajcabDoor
