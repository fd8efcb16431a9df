/- Contracts of forecast.day and of the reference's ZoneRuleDay. -/
import Derived.Test.YtjpbkkoflaajcabDoorFore3
import Derived.Test.YtjpbkkoflaajcabDoorOne
import Derived.Test.YtjpbkkoflaajcabDoorOwn
import Derived.Test.YtjpbkkoflaajcabDoorZone6
namespace Go.Proofs.YtjpbkkoflaajcabDoor
set_option linter.unusedVariables false
set_option maxRecDepth 100000
open Go.RowKit greg

theorem Tryd.infoInt4 : (Tryd.prog.info? 3).map (fun i => (i.zero, i.size, i.bytes)) = some (some (.int .i64 0), 1, 8) := by kernel_rfl
theorem own_then4 {w w' : World} {base : Nat} {e : TypeId} {size : Nat} {v : Value} {n : Nat} {xs : List Value} (h : w.ownsRow base e size v n xs) (hb : Below w.heap.size w w') : w'.ownsRow base e size v n xs := by
  refine ⟨h.1, ?_⟩
  rcases h.2 with h0 | ⟨g, cap, cur, hv, hg, hat, rest⟩
  · exact .inl h0
  · exact .inr ⟨g, cap, cur, hv, hg, (show At w g _ from hat).then_ hb, rest⟩
theorem index12 (l : Bool) (m : Int) (m1 : 1 ≤ m) (m2 : m ≤ 12) : ∀ W : World, (Instr.index 75 (.agg #[.int .i64 31, .int .i64 (feb l), .int .i64 31, .int .i64 30, .int .i64 31, .int .i64 30, .int .i64 31, .int .i64 31, .int .i64 30, .int .i64 31, .int .i64 30, .int .i64 31]) (.int .i64 (m - 1))).run Tryd.prog W = .ok (.int .i64 (lenN l m.toNat : Int)) W := by
  intro W
  have h : m = 1 ∨ m = 2 ∨ m = 3 ∨ m = 4 ∨ m = 5 ∨ m = 6 ∨ m = 7 ∨ m = 8 ∨ m = 9 ∨ m = 10 ∨ m = 11 ∨ m = 12 := by omega
  rcases h with rfl | rfl | rfl | rfl | rfl | rfl | rfl | rfl | rfl | rfl | rfl | rfl
  all_goals (cases l; all_goals (show _ = _; kernel_rfl))
theorem dayOut_first {y m : Int} (y1 : -10000 ≤ y) (y2 : y ≤ 10000) (m1 : 1 ≤ m) (m2 : m ≤ 12) : dayOut y m 1 = .tuple #[.int .i64 (num y m 1), .int .i64 0] := by
  obtain ⟨a, b⟩ := lenN_in (leapI y) m.toNat
  unfold dayOut
  rw [if_neg (by rw [show inB (-10000) 10000 y = true from inB_iff.2 ⟨y1, y2⟩]; simp), if_neg (by unfold validB; rw [decide_eq_true (by omega)]; simp)]
set_option maxHeartbeats 4000000 in
theorem forecast_day (w : World) (m wk wd t o y : Int) (l : ByteArray) (m1 : 1 ≤ m) (m2 : m ≤ 12) (k1 : 1 ≤ wk) (k2 : wk ≤ 5) (h0 : 0 ≤ wd) (h1 : wd ≤ 6) (y1 : -10000 ≤ y) (y2 : y ≤ 10000) :
    Calls Tryd.prog 40 #[.agg #[.int .i64 m, .int .i64 wk, .int .i64 wd, .int .i64 t, .int .i64 o, .string l], .int .i64 y] w fun e w' => e = .returned (.int .i64 (ruleDay y m wk wd)) ∧ Below w.heap.size w w' := by
  obtain ⟨a, b⟩ := lenN_in (leapI y) m.toNat
  have v1 := num_bound y m 1 y1 y2 ⟨m1, m2, by omega, by omega⟩
  have HD := Lib.hid (dayOut_first y1 y2 m1 m2)
  have HL := Lib.hid (nth_last y1 y2 m1 m2 h0 h1)
  have HF := Lib.hid (show wk ≤ 4 → _ from fun h => nth_first y1 y2 m1 m2 k1 h h0 h1)
  have HIX := Lib.hid (index12 (leapI y) m m1 m2)
  obtain ⟨R, hR⟩ : ∃ R, R = ruleDay y m wk wd := ⟨_, rfl⟩
  rw [← hR] at HF ⊢
  have HR := Lib.hid hR; clear hR
  obtain ⟨v1, v2⟩ := v1
  generalize num y m 1 = D at *
  have hw1 : IntKind.i64.wrap (m - 1) = m - 1 := IntWalk.i64_in _ (by omega)
  generalize hLN : lenN (leapI y) m.toNat = L at *
  have hw2 : IntKind.i64.wrap (D + (L : Int)) = D + (L : Int) := IntWalk.i64_in _ (by omega)
  have hw3 : IntKind.i64.wrap (D + (L : Int) - 1) = D + (L : Int) - 1 := IntWalk.i64_in _ (by omega)
  go_enter Tryd.func40, Tryd.ntmps40
  go_wp2_with fail
  have o0 := One.new w (.cells #[.int .i64 m, .int .i64 wk, .int .i64 wd, .int .i64 t, .int .i64 o, .string l] 55)
  generalize World.alloc w _ = W0 at o0 ⊢
  refine (line_Day y m 1 _ (by omega) (by omega) (by omega) (by omega)).mono ?_; rw [HD.out]; rintro e w1 ⟨rfl, hb⟩
  replace o0 := o0.step hb
  clear hb
  have x0 : w1.cell? ⟨w.heap.size, 0, none⟩ = some (.int .i64 m) := o0.1.cell 0
  have x1 : w1.cell? ⟨w.heap.size, 1, none⟩ = some (.int .i64 wk) := o0.1.cell 1
  have x2 : w1.cell? ⟨w.heap.size, 2, none⟩ = some (.int .i64 wd) := o0.1.cell 2
  by_cases h5 : wk = 5
  · subst h5
    rw [← HR.out] at HL
    go_wp2_with fail
    clear x0 x1 x2
    have O0 := Lib.hid o0
    (refine region_class (Below w1.heap.size w1) (by kernel_rfl) (by kernel_rfl) ((Below.refl _ _).drew) ?_; repeat ((first | (refine class_take ?_ (by rfl) ?_ ?_; rotate_left; focus (intro wq hq; ((have o1 := O0.out.step hq; have x0 : wq.cell? ⟨w.heap.size, 0, none⟩ = some (.int .i64 m) := o1.1.cell 0; have ix := HIX.out)); go_simp; first | done | with_reducible rfl | ((go_at_call 54; refine (line_Lengths _ _ (by omega) (by omega)).mono ?_; rintro e w' ⟨rfl, hb⟩; refine ⟨?_, below_then hq hb⟩; with_reducible rfl)))) | refine class_skip (by rfl) ?_); try simp only [Act.put, List.setIfInBounds_toArray, List.set_cons_zero, List.set_cons_succ]))
    refine wpQuiet_nil ?_
    intro W2 hb2
    replace o0 := o0.step hb2
    have x2 : W2.cell? ⟨w.heap.size, 2, none⟩ = some (.int .i64 wd) := o0.1.cell 2
    clear O0 hb2
    go_wp2_with fail
    refine (line_Nth _ _ _ _).mono ?_; rw [HL.out]; rintro e w3 ⟨rfl, hd⟩
    go_wp2_with fail
    go_ret
    exact ⟨rfl, (o0.drawn hd).2⟩
  · have hne : (wk == 5) = false := by simpa using h5
    go_wp2_with fail
    refine (line_Nth _ _ _ _).mono ?_; rw [HF.out (by omega)]; rintro e w3 ⟨rfl, hd⟩
    go_wp2_with fail
    go_ret
    exact ⟨rfl, (o0.drawn hd).2⟩
set_option maxHeartbeats 8000000 in
theorem ref_ZoneRuleDay (w : World) (m wk wd t o y : Int) (l : ByteArray) (m1 : 1 ≤ m) (m2 : m ≤ 12) (k1 : 1 ≤ wk) (k2 : wk ≤ 5) (h0 : 0 ≤ wd) (h1 : wd ≤ 6) (y1 : -10000 ≤ y) (y2 : y ≤ 10000) :
    Calls Tryd.prog 33 #[.agg #[.int .i64 m, .int .i64 wk, .int .i64 wd, .int .i64 t, .int .i64 o, .string l], .int .i64 y] w fun e w' => e = .returned (.int .i64 (ruleDay y m wk wd)) ∧ Below w.heap.size w w' := by
  obtain ⟨i0, hi, hz0, hz1, hz2⟩ := info_parts Tryd.infoInt4
  obtain ⟨la, lb⟩ := lenN_in (leapI y) m.toNat
  have v1 := num_bound y m 1 y1 y2 ⟨m1, m2, by omega, by omega⟩
  have HLAST := Lib.hid (show wk = 5 → ruleDay y m wk wd = (num y m 1 + wkE (num y m 1) wd) + 7 * ((wkC (lenN (leapI y) m.toNat) (wkE (num y m 1) wd) 31 - 1 : Nat) : Int) from fun h => by subst h; exact ruleDay_last h0 h1)
  have HWEEK := Lib.hid (show wk ≤ 4 → ruleDay y m wk wd = _ from fun h => ruleDay_week k1 h h0 h1)
  have hE := wkE_lt (num y m 1) wd
  have HEND := Lib.hid (wk_end la lb hE)
  have HYES := Lib.hid (fun (k : Nat) (hk : k + 1 ≤ lenN (leapI y) m.toNat) (h : (num y m 1 + k + 6) % 7 = wd) => wk_yes h0 h1 hk h)
  have HNO := Lib.hid (fun (k : Nat) (h : ¬ (num y m 1 + k + 6) % 7 = wd) => wk_no (L := lenN (leapI y) m.toNat) h0 h1 h)
  have HV := Lib.hid (fun (k : Nat) (hk : k + 1 ≤ lenN (leapI y) m.toNat) => show validB y m ((k : Int) + 1) = true from decide_eq_true (by omega))
  have HNV := Lib.hid (fun (k : Nat) (hk : ¬ k + 1 ≤ lenN (leapI y) m.toNat) => show validB y m ((k : Int) + 1) = false from decide_eq_false (by omega))
  have HG := Lib.hid (fun (k : Nat) (hk : k + 1 ≤ lenN (leapI y) m.toNat) => show gregDay y m ((k : Int) + 1) = num y m 1 + k by
    unfold gregDay; rw [HV.out k hk, if_pos rfl, num_day] <;> omega)
  obtain ⟨R, hR⟩ : ∃ R, R = ruleDay y m wk wd := ⟨_, rfl⟩
  rw [← hR] at HLAST HWEEK ⊢
  clear hR
  obtain ⟨v1, v2⟩ := v1
  generalize hee : wkE (num y m 1) wd = E at *
  generalize num y m 1 = D at *
  generalize lenN (leapI y) m.toNat = L at *
  clear hee
  go_enter Tryd.func33, Tryd.ntmps33
  go_wp2_with fail
  have a0 := At.new w (.cells #[.int .i64 m, .int .i64 wk, .int .i64 wd, .int .i64 t, .int .i64 o, .string l] 55)
  have b0 : Below w.heap.size w (w.alloc (.cells #[.int .i64 m, .int .i64 wk, .int .i64 wd, .int .i64 t, .int .i64 o, .string l] 55)) := by (repeat' (first | exact Below.refl _ _ | assumption | refine Below.drew ?_ | refine below_drewN ?_ _ | refine below_new ?_ _ | refine below_set ?_ ?_ _ | refine below_then ?_ (by assumption) | refine below_drawn ?_ (by assumption) | exact Nat.le_refl _ | omega | (simp; done) | (simp; omega)))
  generalize World.alloc w _ = W0 at a0 b0 ⊢
  go_loopw [5, 6, 7] (fun v vd _ wr => ∃ k : Nat, k ≤ 31 ∧ vd = .int .i64 ((k : Int) + 1) ∧ wr.ownsRow (w.heap.size + 1) 3 1 v (wkC L E k) ((wks (D + E) (wkC L E k)).map (Value.int .i64)) ∧ At wr w.heap.size (.cells #[.int .i64 m, .int .i64 wk, .int .i64 wd, .int .i64 t, .int .i64 o, .string l] 55) ∧ Below w.heap.size w wr) (fun _ vd _ _ => 33 - (intOf vd).toNat)
  case atStart => exact ⟨0, by omega, rfl, by rw [show wkC L E 0 = 0 by unfold wkC; omega]; exact World.ownsRow_nil _ _ _ _, a0, b0⟩
  case round =>
    clear a0 b0
    obtain ⟨k, hk, rfl, hown, a0, b0⟩ := hrel
    have hCb := wk_bound (L := L) (e := E) hk
    have OWN := Lib.hid hown; clear hown
    have hlw := a0.lt
    by_cases hlt : k < 31
    · have x0 : wr.cell? ⟨w.heap.size, 0, none⟩ = some (.int .i64 m) := a0.cell 0
      have hlt2 : (k : Int) + 1 ≤ 31 := by omega
      have A0 := Lib.hid a0; have B0 := Lib.hid b0; clear a0 b0
      go_upto_region 6 with fail
      have a1 := A0.out.alloc (.cells #[.int .i64 y, .int .i64 m, .int .i64 ((k : Int) + 1)] 63)
      have ax := At.new wr (.cells #[.int .i64 y, .int .i64 m, .int .i64 ((k : Int) + 1)] 63)
      have b1 := below_new B0.out (.cells #[.int .i64 y, .int .i64 m, .int .i64 ((k : Int) + 1)] 63)
      have own1 := OWN.out.alloc (.cells #[.int .i64 y, .int .i64 m, .int .i64 ((k : Int) + 1)] 63)
      generalize World.alloc wr _ = W1 at a1 ax b1 own1 ⊢
      generalize wr.heap.size = X at *
      have A1 := Lib.hid a1; have AX := Lib.hid ax; have B1 := Lib.hid b1; have OWN1 := Lib.hid own1
      clear a1 ax b1 own1 OWN A0 B0 x0
      by_cases hv : k + 1 ≤ L
      · have HVk := Lib.hid (HV.out k hv); have HGk := Lib.hid (HG.out k hv)
        by_cases hq : (D + k + 6) % 7 = wd
        · obtain ⟨s1, s2⟩ := HYES.out k hv hq
          have hq' : ((D + (k : Int) + 6) % 7 == wd) = true := by simpa using hq
          have S1 := Lib.hid s1; have S2 := Lib.hid s2
          clear s1 s2 hq
          (refine region_class (Below W1.heap.size W1) (by kernel_rfl) (by kernel_rfl) ((Below.refl _ _).drew) ?_; repeat ((first | (refine class_take ?_ (by rfl) ?_ ?_; rotate_left; focus (intro wq hq; ((have a1 := A1.out.then_ hq; have ax := AX.out.then_ hq; have x2 : wq.cell? ⟨w.heap.size, 2, none⟩ = some (.int .i64 wd) := a1.cell 2; have z0 : wq.cell? ⟨X, 0, none⟩ = some (.int .i64 y) := ax.cell 0; have z1 : wq.cell? ⟨X, 1, none⟩ = some (.int .i64 m) := ax.cell 1; have z2 : wq.cell? ⟨X, 2, none⟩ = some (.int .i64 ((k : Int) + 1)) := ax.cell 2)); go_simp; first | done | with_reducible rfl | ((first
            | (go_at_call 42; refine (ref_GregExists _ _ _ _ y1 y2 (by omega) (by omega)).mono ?_; rw [HVk.out]; rintro e w' ⟨rfl, hb⟩; refine ⟨?_, below_then hq hb⟩; with_reducible rfl)
            | (go_at_call 44; refine (ref_GregDay _ _ _ _ y1 y2 m1 m2 (by omega) (by omega)).mono ?_; rw [HGk.out]; rintro e w' ⟨rfl, hb⟩; refine ⟨?_, below_then hq hb⟩; with_reducible rfl)
            | (go_at_call 43; refine (ref_Week _ _ (by omega) (by omega)).mono ?_; rintro e w' ⟨rfl, rfl⟩; refine ⟨?_, hq⟩; with_reducible rfl))))) | refine class_skip (by rfl) ?_); try simp only [Act.put, List.setIfInBounds_toArray, List.set_cons_zero, List.set_cons_succ]))
          refine wpQuiet_nil ?_
          intro W2 hb2
          have A2 := Lib.hid (A1.out.then_ hb2); have AX2 := Lib.hid (AX.out.then_ hb2); have B2 := Lib.hid (below_then B1.out hb2); have OWN2 := Lib.hid (own_then4 OWN1.out hb2)
          have z0 : W2.cell? ⟨X, 0, none⟩ = some (.int .i64 y) := AX2.out.cell 0
          have z1 : W2.cell? ⟨X, 1, none⟩ = some (.int .i64 m) := AX2.out.cell 1
          have z2 : W2.cell? ⟨X, 2, none⟩ = some (.int .i64 ((k : Int) + 1)) := AX2.out.cell 2
          clear A1 AX B1 OWN1 hb2
          go_wp2_with fail
          refine (ref_GregDay _ _ _ _ y1 y2 m1 m2 (by omega) (by omega)).mono ?_; rw [HGk.out]; rintro e w3 ⟨rfl, hb⟩
          have A3 := Lib.hid (A2.out.then_ hb); have B3 := Lib.hid (below_then B2.out hb); have OWN3 := Lib.hid (own_then4 OWN2.out hb)
          have hw3 := A3.out.lt
          have hT : -5000000 ≤ D + (k : Int) ∧ D + (k : Int) ≤ 5000000 := by omega
          obtain ⟨hT1, hT2⟩ := hT
          clear A2 AX2 B2 OWN2 hb z0 z1 z2 hq'
          generalize D + (k : Int) = T at *
          generalize wkC L E k = C at *
          go_wp2_with (at_builtin; refine wpList_append_own _ rfl _ _ 29 rfl (w.heap.size + 1) 3 i0 (.int .i64 0) 1 8 Tryd.underlying29 hi hz0 hz1 hz2 rfl (by decide) _ _ _ rfl (OWN3.out.alloc _) ⟨w3.heap.size, 0, none⟩ 1 1 [.int .i64 T] rfl rfl (World.news_of_block (cs := #[.int .i64 T]) (t := 3) (fr := (0, 0)) (heap_alloc_new w3 _)) (by simp [Value.oneCell']) (by unfold maxLen; omega) (by omega) (by first | omega | (simp; omega)) ?_; intro v' w4 hown' hgrow _)
          have a2 := (A3.out.alloc (.cells #[.int .i64 T] 3)).grown6 hgrow (own_near OWN3.out (by omega))
          have b2 : Below w.heap.size w w4 := (below_new B3.out (.cells #[.int .i64 T] 3)).grown hgrow (by first | omega | (simp; omega)) (fun b hb => by
            rcases Nat.lt_or_ge b (w.heap.size + 1) with h | h
            · exact absurd hb.symm (own_near OWN3.out h)
            · omega)
          have OWN4 := Lib.hid hown'
          clear hown' hgrow OWN3
          go_wp2_with fail
          go_roundw
          case rel =>
            refine ⟨k + 1, by omega, by go_num, ?_, a2, b2⟩
            rw [S1.out, wks, List.map_append, ← S2.out]; exact OWN4.out
          case measure => first | (simp [intOf]; done) | (simp [intOf]; omega)
        · have s1 := HNO.out k hq
          have hq' : ((D + (k : Int) + 6) % 7 == wd) = false := by simpa using hq
          have S1 := Lib.hid s1
          clear s1 hq
          (refine region_class (Below W1.heap.size W1) (by kernel_rfl) (by kernel_rfl) ((Below.refl _ _).drew) ?_; repeat ((first | (refine class_take ?_ (by rfl) ?_ ?_; rotate_left; focus (intro wq hq; ((have a1 := A1.out.then_ hq; have ax := AX.out.then_ hq; have x2 : wq.cell? ⟨w.heap.size, 2, none⟩ = some (.int .i64 wd) := a1.cell 2; have z0 : wq.cell? ⟨X, 0, none⟩ = some (.int .i64 y) := ax.cell 0; have z1 : wq.cell? ⟨X, 1, none⟩ = some (.int .i64 m) := ax.cell 1; have z2 : wq.cell? ⟨X, 2, none⟩ = some (.int .i64 ((k : Int) + 1)) := ax.cell 2)); go_simp; first | done | with_reducible rfl | ((first
            | (go_at_call 42; refine (ref_GregExists _ _ _ _ y1 y2 (by omega) (by omega)).mono ?_; rw [HVk.out]; rintro e w' ⟨rfl, hb⟩; refine ⟨?_, below_then hq hb⟩; with_reducible rfl)
            | (go_at_call 44; refine (ref_GregDay _ _ _ _ y1 y2 m1 m2 (by omega) (by omega)).mono ?_; rw [HGk.out]; rintro e w' ⟨rfl, hb⟩; refine ⟨?_, below_then hq hb⟩; with_reducible rfl)
            | (go_at_call 43; refine (ref_Week _ _ (by omega) (by omega)).mono ?_; rintro e w' ⟨rfl, rfl⟩; refine ⟨?_, hq⟩; with_reducible rfl))))) | refine class_skip (by rfl) ?_); try simp only [Act.put, List.setIfInBounds_toArray, List.set_cons_zero, List.set_cons_succ]))
          refine wpQuiet_nil ?_
          intro W2 hb2
          go_wp2_with fail
          go_roundw
          case rel => exact ⟨k + 1, by omega, by go_num, by rw [S1.out]; exact own_then4 OWN1.out hb2, A1.out.then_ hb2, below_then B1.out hb2⟩
          case measure => first | (simp [intOf]; done) | (simp [intOf]; omega)
      · have HVk := Lib.hid (HNV.out k hv)
        have S1 := Lib.hid (wk_out (e := E) hv)
        (refine region_class (Below W1.heap.size W1) (by kernel_rfl) (by kernel_rfl) ((Below.refl _ _).drew) ?_; repeat ((first | (refine class_take ?_ (by rfl) ?_ ?_; rotate_left; focus (intro wq hq; ((have a1 := A1.out.then_ hq; have ax := AX.out.then_ hq; have x2 : wq.cell? ⟨w.heap.size, 2, none⟩ = some (.int .i64 wd) := a1.cell 2; have z0 : wq.cell? ⟨X, 0, none⟩ = some (.int .i64 y) := ax.cell 0; have z1 : wq.cell? ⟨X, 1, none⟩ = some (.int .i64 m) := ax.cell 1; have z2 : wq.cell? ⟨X, 2, none⟩ = some (.int .i64 ((k : Int) + 1)) := ax.cell 2)); go_simp; first | done | with_reducible rfl | ((go_at_call 42; refine (ref_GregExists _ _ _ _ y1 y2 (by omega) (by omega)).mono ?_; rw [HVk.out]; rintro e w' ⟨rfl, hb⟩; refine ⟨?_, below_then hq hb⟩; with_reducible rfl)))) | refine class_skip (by rfl) ?_); try simp only [Act.put, List.setIfInBounds_toArray, List.set_cons_zero, List.set_cons_succ]))
        refine wpQuiet_nil ?_
        intro W2 hb2
        go_wp2_with fail
        go_roundw
        case rel => exact ⟨k + 1, by omega, by go_num, by rw [S1.out]; exact own_then4 OWN1.out hb2, A1.out.then_ hb2, below_then B1.out hb2⟩
        case measure => first | (simp [intOf]; done) | (simp [intOf]; omega)
    · obtain rfl : k = 31 := by omega
      obtain ⟨c1, c2⟩ := HEND.out
      generalize hC : wkC L E 31 = C at *
      obtain ⟨aa, cc, rfl, _, _, hI⟩ := own_ints OWN.out (fun z hz => by have := wks_mem _ _ z hz; unfold I64; omega) (wks_len _ _)
      have HI := Lib.hid hI; clear hI
      have x1 : wr.cell? ⟨w.heap.size, 1, none⟩ = some (.int .i64 wk) := a0.cell 1
      by_cases h5 : wk = 5
      · subst h5
        obtain ⟨fb, foff, x, rfl, _, hfc, hx, _, _⟩ := HI.out.at_ (show C - 1 < C by omega)
        have hxr : x = R := by
          rw [HLAST.out rfl]
          rw [wks_at _ _ _ (by omega)] at hx
          injection hx with hx; exact hx.symm
        subst hxr
        have hn1 : (C : Int) - 1 = ((C - 1 : Nat) : Int) := by omega
        have hw0 : IntKind.i64.wrap ((C : Int) - 1) = ((C - 1 : Nat) : Int) := by rw [IntWalk.i64_in _ (by omega)]; exact hn1
        clear hx
        go_wp2_with fail
        go_ret
        exact ⟨rfl, b0⟩
      · have hne : (wk == 5) = false := by simpa using h5
        obtain ⟨j, rfl⟩ : ∃ j : Nat, wk = (j : Int) + 1 := ⟨(wk - 1).toNat, by omega⟩
        obtain ⟨fb, foff, x, rfl, _, hfc, hx, _, _⟩ := HI.out.at_ (show j < C by omega)
        have hxr : x = R := by
          rw [HWEEK.out (by omega)]
          rw [wks_at _ _ _ (by omega)] at hx
          injection hx with hx; rw [← hx]; omega
        subst hxr
        have hw0 : IntKind.i64.wrap ((j : Int) + 1 - 1) = (j : Int) := by rw [IntWalk.i64_in _ (by omega)]; omega
        clear hx
        go_wp2_with fail
        go_ret
        exact ⟨rfl, b0⟩
end Go.Proofs.YtjpbkkoflaajcabDoor
