/- Contracts of recur.at and of the method unit of a moment. -/
import Derived.Test.YtdmkghgachapaaaGreatDoorMgD
import Derived.Test.YtdmkghgachapaaaGreatDoorMgQ
namespace Go.Proofs.YtdmkghgachapaaaGreatDoor
set_option linter.unusedVariables false
set_option maxRecDepth 100000
open Go.RowKit greg

theorem index12R (l : Bool) (m : Int) (m1 : 1 ≤ m) (m2 : m ≤ 12) : ∀ W : World, (Instr.index 74 (.agg #[.int .i64 31, .int .i64 (feb l), .int .i64 31, .int .i64 30, .int .i64 31, .int .i64 30, .int .i64 31, .int .i64 31, .int .i64 30, .int .i64 31, .int .i64 30, .int .i64 31]) (.int .i64 (m - 1))).run Tryz.prog W = .ok (.int .i64 (lenN l m.toNat : Int)) W := by
  intro W
  have h : m = 1 ∨ m = 2 ∨ m = 3 ∨ m = 4 ∨ m = 5 ∨ m = 6 ∨ m = 7 ∨ m = 8 ∨ m = 9 ∨ m = 10 ∨ m = 11 ∨ m = 12 := by omega
  rcases h with rfl | rfl | rfl | rfl | rfl | rfl | rfl | rfl | rfl | rfl | rfl | rfl
  all_goals (cases l; all_goals (show _ = _; kernel_rfl))
/-- The length of the month of a day. -/
def mlen (x : Int) : Int := (lenN (leapI (gY x)) (gM x).toNat : Int)
theorem gY_in (x : Int) (h1 : -4000000 ≤ x) (h2 : x ≤ 4000000) : -20000 ≤ gY x ∧ gY x ≤ 20000 ∧ 1 ≤ gM x ∧ gM x ≤ 12 := by
  obtain ⟨hv, hnum⟩ := greg_spec x
  have hyr := num_in (gY x) (gM x) (gD x) hv
  rw [hnum] at hyr
  have a := NY_low (gY x + 1) x hyr.2 h1
  have b := NY_high (gY x) x hyr.1 h2
  exact ⟨by omega, by omega, hv.1, hv.2.1⟩
set_option maxHeartbeats 4000000 in
theorem recur_at (w : World) (x : Int) (h1 : -4000000 ≤ x) (h2 : x ≤ 4000000) :
    Calls Tryz.prog 17 #[.int .i64 x] w fun e w' => e = .returned (.agg #[.int .i64 x, .int .i64 ((x - 1) % 7), .int .i64 (gY x), .int .i64 (gM x), .int .i64 (gD x), .int .i64 (mlen x)]) ∧ Below w.heap.size w w' := by
  unfold mlen
  obtain ⟨yr1, yr2, m1, m2⟩ := gY_in x h1 h2
  have HIX := Lib.hid (index12R (leapI (gY x)) (gM x) m1 m2)
  have hw0 : IntKind.i64.wrap (x - 1) = x - 1 := IntWalk.i64_in _ (by omega)
  have hw1 : IntKind.i64.wrap (gM x - 1) = gM x - 1 := IntWalk.i64_in _ (by omega)
  go_enter Tryz.func17, Tryz.ntmps17
  go_wp2_with fail
  have ar := At.new w (.cells #[.int .i64 0, .int .i64 0, .int .i64 0, .int .i64 0, .int .i64 0, .int .i64 0] 54)
  have b0 := below_new (Below.refl w.heap.size w) (.cells #[.int .i64 0, .int .i64 0, .int .i64 0, .int .i64 0, .int .i64 0, .int .i64 0] 54)
  generalize World.alloc w _ = W0 at ar b0 ⊢
  refine (line_Date_yes x _ h1 h2).mono ?_; rintro e w1 ⟨rfl, hb⟩
  replace ar := ar.then_ hb
  replace b0 := below_then b0 hb
  clear hb
  go_upto_region 2 with fail
  have ad := At.new w1 (.cells #[.int .i64 (gY x), .int .i64 (gM x), .int .i64 (gD x)] 52)
  replace ar := ar.alloc (.cells #[.int .i64 (gY x), .int .i64 (gM x), .int .i64 (gD x)] 52)
  replace b0 := below_new b0 (.cells #[.int .i64 (gY x), .int .i64 (gM x), .int .i64 (gD x)] 52)
  generalize World.alloc w1 _ = W2 at ar ad b0 ⊢
  generalize w1.heap.size = db at *
  have AD := Lib.hid ad
  (refine region_class_tail 13 (Below W2.heap.size W2) (by kernel_rfl) (by kernel_rfl) ((Below.refl _ _).drew) ?_; simp only [List.take_succ_cons, List.take_zero, List.drop_succ_cons, List.drop_zero]; repeat ((first | (refine class_take ?_ (by rfl) ?_ ?_; rotate_left; focus (intro wq hq; ((have a1 := AD.out.then_ hq; have x0 : wq.cell? ⟨db, 0, none⟩ = some (.int .i64 (gY x)) := a1.cell 0; have x1 : wq.cell? ⟨db, 1, none⟩ = some (.int .i64 (gM x)) := a1.cell 1; have x2 : wq.cell? ⟨db, 2, none⟩ = some (.int .i64 (gD x)) := a1.cell 2; have ix := HIX.out)); go_simp; first | done | with_reducible rfl | ((first | (go_at_call 33; refine (whole_Mod _ _ _ (by omega) (by omega) (by omega) (by omega)).mono ?_; rintro e w' ⟨rfl, hdr⟩; refine ⟨?_, below_drawn hq hdr⟩; with_reducible rfl) | (go_at_call 34; refine (line_Lengths _ _ (by omega) (by omega)).mono ?_; rintro e w' ⟨rfl, hb⟩; refine ⟨?_, below_then hq hb⟩; with_reducible rfl))))) | refine class_skip (by rfl) ?_); try simp only [Act.put, List.setIfInBounds_toArray, List.set_cons_zero, List.set_cons_succ]))
  refine wpQuiet_nil ?_
  intro W3 hb3
  replace ar := ar.then_ hb3
  replace b0 := below_then b0 hb3
  have f0 : W3.frozen? ⟨w.heap.size, 0, none⟩ = false := ar.frozen 0
  have z0 : W3.cell? ⟨w.heap.size, 0, none⟩ = some (.int .i64 0) := ar.cell 0
  have f1 : W3.frozen? ⟨w.heap.size, 1, none⟩ = false := ar.frozen 1
  have z1 : W3.cell? ⟨w.heap.size, 1, none⟩ = some (.int .i64 0) := ar.cell 1
  have f2 : W3.frozen? ⟨w.heap.size, 2, none⟩ = false := ar.frozen 2
  have z2 : W3.cell? ⟨w.heap.size, 2, none⟩ = some (.int .i64 0) := ar.cell 2
  have f3 : W3.frozen? ⟨w.heap.size, 3, none⟩ = false := ar.frozen 3
  have z3 : W3.cell? ⟨w.heap.size, 3, none⟩ = some (.int .i64 0) := ar.cell 3
  have f4 : W3.frozen? ⟨w.heap.size, 4, none⟩ = false := ar.frozen 4
  have z4 : W3.cell? ⟨w.heap.size, 4, none⟩ = some (.int .i64 0) := ar.cell 4
  have f5 : W3.frozen? ⟨w.heap.size, 5, none⟩ = false := ar.frozen 5
  have z5 : W3.cell? ⟨w.heap.size, 5, none⟩ = some (.int .i64 0) := ar.cell 5
  have AR := Lib.hid ar
  have hlr := ar.lt
  clear ar ad hb3
  go_wp2_with fail
  have AF := ((((((AR.out.store 0 (.int .i64 x)).store 1 (.int .i64 ((x - 1) % 7))).store 2 (.int .i64 (gY x))).store 3 (.int .i64 (gM x))).store 4 (.int .i64 (gD x))).store 5 (.int .i64 (lenN (leapI (gY x)) (gM x).toNat : Int)))
  simp only [List.setIfInBounds_toArray, List.set_cons_succ, List.set_cons_zero] at AF
  have y0 : ((((((W3.setCell ⟨w.heap.size, 0, none⟩ (.int .i64 x)).setCell ⟨w.heap.size, 1, none⟩ (.int .i64 ((x - 1) % 7))).setCell ⟨w.heap.size, 2, none⟩ (.int .i64 (gY x))).setCell ⟨w.heap.size, 3, none⟩ (.int .i64 (gM x))).setCell ⟨w.heap.size, 4, none⟩ (.int .i64 (gD x))).setCell ⟨w.heap.size, 5, none⟩ (.int .i64 (lenN (leapI (gY x)) (gM x).toNat : Int))).cell? ⟨w.heap.size, 0, none⟩ = some (.int .i64 x) := AF.cell 0
  have y1 : ((((((W3.setCell ⟨w.heap.size, 0, none⟩ (.int .i64 x)).setCell ⟨w.heap.size, 1, none⟩ (.int .i64 ((x - 1) % 7))).setCell ⟨w.heap.size, 2, none⟩ (.int .i64 (gY x))).setCell ⟨w.heap.size, 3, none⟩ (.int .i64 (gM x))).setCell ⟨w.heap.size, 4, none⟩ (.int .i64 (gD x))).setCell ⟨w.heap.size, 5, none⟩ (.int .i64 (lenN (leapI (gY x)) (gM x).toNat : Int))).cell? ⟨w.heap.size, 1, none⟩ = some (.int .i64 ((x - 1) % 7)) := AF.cell 1
  have y2 : ((((((W3.setCell ⟨w.heap.size, 0, none⟩ (.int .i64 x)).setCell ⟨w.heap.size, 1, none⟩ (.int .i64 ((x - 1) % 7))).setCell ⟨w.heap.size, 2, none⟩ (.int .i64 (gY x))).setCell ⟨w.heap.size, 3, none⟩ (.int .i64 (gM x))).setCell ⟨w.heap.size, 4, none⟩ (.int .i64 (gD x))).setCell ⟨w.heap.size, 5, none⟩ (.int .i64 (lenN (leapI (gY x)) (gM x).toNat : Int))).cell? ⟨w.heap.size, 2, none⟩ = some (.int .i64 (gY x)) := AF.cell 2
  have y3 : ((((((W3.setCell ⟨w.heap.size, 0, none⟩ (.int .i64 x)).setCell ⟨w.heap.size, 1, none⟩ (.int .i64 ((x - 1) % 7))).setCell ⟨w.heap.size, 2, none⟩ (.int .i64 (gY x))).setCell ⟨w.heap.size, 3, none⟩ (.int .i64 (gM x))).setCell ⟨w.heap.size, 4, none⟩ (.int .i64 (gD x))).setCell ⟨w.heap.size, 5, none⟩ (.int .i64 (lenN (leapI (gY x)) (gM x).toNat : Int))).cell? ⟨w.heap.size, 3, none⟩ = some (.int .i64 (gM x)) := AF.cell 3
  have y4 : ((((((W3.setCell ⟨w.heap.size, 0, none⟩ (.int .i64 x)).setCell ⟨w.heap.size, 1, none⟩ (.int .i64 ((x - 1) % 7))).setCell ⟨w.heap.size, 2, none⟩ (.int .i64 (gY x))).setCell ⟨w.heap.size, 3, none⟩ (.int .i64 (gM x))).setCell ⟨w.heap.size, 4, none⟩ (.int .i64 (gD x))).setCell ⟨w.heap.size, 5, none⟩ (.int .i64 (lenN (leapI (gY x)) (gM x).toNat : Int))).cell? ⟨w.heap.size, 4, none⟩ = some (.int .i64 (gD x)) := AF.cell 4
  have y5 : ((((((W3.setCell ⟨w.heap.size, 0, none⟩ (.int .i64 x)).setCell ⟨w.heap.size, 1, none⟩ (.int .i64 ((x - 1) % 7))).setCell ⟨w.heap.size, 2, none⟩ (.int .i64 (gY x))).setCell ⟨w.heap.size, 3, none⟩ (.int .i64 (gM x))).setCell ⟨w.heap.size, 4, none⟩ (.int .i64 (gD x))).setCell ⟨w.heap.size, 5, none⟩ (.int .i64 (lenN (leapI (gY x)) (gM x).toNat : Int))).cell? ⟨w.heap.size, 5, none⟩ = some (.int .i64 (lenN (leapI (gY x)) (gM x).toNat : Int)) := AF.cell 5
  exact bodyPost_ret (v := .agg #[.int .i64 x, .int .i64 ((x - 1) % 7), .int .i64 (gY x), .int .i64 (gM x), .int .i64 (gD x), .int .i64 (lenN (leapI (gY x)) (gM x).toNat : Int)]) (by simp [results, Tryz.results17, go_sem, y0, y1, y2, y3, y4, y5]) rfl ⟨rfl, (below_set (below_set (below_set (below_set (below_set (below_set b0 (p := ⟨w.heap.size, 0, none⟩) (Nat.le_refl _) (.int .i64 x)) (p := ⟨w.heap.size, 1, none⟩) (Nat.le_refl _) (.int .i64 ((x - 1) % 7))) (p := ⟨w.heap.size, 2, none⟩) (Nat.le_refl _) (.int .i64 (gY x))) (p := ⟨w.heap.size, 3, none⟩) (Nat.le_refl _) (.int .i64 (gM x))) (p := ⟨w.heap.size, 4, none⟩) (Nat.le_refl _) (.int .i64 (gD x))) (p := ⟨w.heap.size, 5, none⟩) (Nat.le_refl _) (.int .i64 (lenN (leapI (gY x)) (gM x).toNat : Int)))⟩
def unitOf (u x y m : Int) : Int := if u = 1 then x else if u = 2 then (x - 1) / 7 else if u = 3 then y * 12 + m else y
set_option maxHeartbeats 2000000 in
theorem moment_unit (w : World) (u x k y m d n : Int) (h1 : -4000000 ≤ x) (h2 : x ≤ 4000000) (y1 : -20000 ≤ y) (y2 : y ≤ 20000) (m1 : 1 ≤ m) (m2 : m ≤ 12) :
    Calls Tryz.prog 65 #[.agg #[.int .i64 x, .int .i64 k, .int .i64 y, .int .i64 m, .int .i64 d, .int .i64 n], .int .i64 u] w fun e w' => e = .returned (.int .i64 (unitOf u x y m)) ∧ Below w.heap.size w w' := by
  have hw0 : IntKind.i64.wrap (y * 12) = y * 12 := IntWalk.i64_in _ (by omega)
  have hw1 : IntKind.i64.wrap (y * 12 + m) = y * 12 + m := IntWalk.i64_in _ (by omega)
  by_cases c1 : u = 1
  · subst c1
    go_enter Tryz.func65, Tryz.ntmps65
    go_wp2_with fail
    go_ret
    exact ⟨by simp [unitOf], by (repeat' (first | exact Below.refl _ _ | assumption | refine Below.drew ?_ | refine below_drewN ?_ _ | refine below_new ?_ _ | refine below_set ?_ ?_ _ | refine below_then ?_ (by assumption) | refine below_drawn ?_ (by assumption) | exact Nat.le_refl _ | omega | (simp; done) | (simp; omega)))⟩
  have n1 : (u == 1) = false := by simpa using c1
  by_cases c2 : u = 2
  · subst c2
    go_enter Tryz.func65, Tryz.ntmps65
    go_wp2_with fail
    refine (whole_Down _ _ _ (by omega) (by omega) (by omega) (by omega)).mono ?_; rintro e w1 ⟨rfl, hd⟩
    go_wp2_with fail
    go_ret
    exact ⟨by simp [unitOf], by (repeat' (first | exact Below.refl _ _ | assumption | refine Below.drew ?_ | refine below_drewN ?_ _ | refine below_new ?_ _ | refine below_set ?_ ?_ _ | refine below_then ?_ (by assumption) | refine below_drawn ?_ (by assumption) | exact Nat.le_refl _ | omega | (simp; done) | (simp; omega)))⟩
  have n2 : (u == 2) = false := by simpa using c2
  by_cases c3 : u = 3
  · subst c3
    go_enter Tryz.func65, Tryz.ntmps65
    go_wp2_with fail
    go_ret
    exact ⟨by simp [unitOf], by (repeat' (first | exact Below.refl _ _ | assumption | refine Below.drew ?_ | refine below_drewN ?_ _ | refine below_new ?_ _ | refine below_set ?_ ?_ _ | refine below_then ?_ (by assumption) | refine below_drawn ?_ (by assumption) | exact Nat.le_refl _ | omega | (simp; done) | (simp; omega)))⟩
  have n3 : (u == 3) = false := by simpa using c3
  go_enter Tryz.func65, Tryz.ntmps65
  go_wp2_with fail
  go_ret
  exact ⟨by simp [unitOf, c1, c2, c3], by (repeat' (first | exact Below.refl _ _ | assumption | refine Below.drew ?_ | refine below_drewN ?_ _ | refine below_new ?_ _ | refine below_set ?_ ?_ _ | refine below_then ?_ (by assumption) | refine below_drawn ?_ (by assumption) | exact Nat.le_refl _ | omega | (simp; done) | (simp; omega)))⟩
end Go.Proofs.YtdmkghgachapaaaGreatDoor
