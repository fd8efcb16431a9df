/- Contracts of the reference's RecurList and of the law's near. -/
import Derived.Test.YthejjpnljdphnaaRec7
namespace Go.Proofs.Ythejjpnljdphnaa
set_option linter.unusedVariables false
set_option maxRecDepth 100000
open Go.RowKit greg

set_option maxHeartbeats 8000000 in
theorem ref_RecurList (w : World) (u ev f cn un : Int) (a1 a2 a3 : Option Addr) (n1 n2 n3 c1 c2 c3 : Nat) (ws ms ns : List Int)
    (h1 : Ints w w.heap.size a1 n1 ws) (h2 : Ints w w.heap.size a2 n2 ms) (h3 : Ints w w.heap.size a3 n3 ns) (ok : RecOk u ev f cn un ws ms ns) (a b : Int) (r3 : -4000000 ≤ b) (r4 : b ≤ 4000000) :
    Calls Try.prog 10 #[.agg #[.int .i64 u, .int .i64 ev, .int .i64 f, .int .i64 cn, .int .i64 un, .slice a1 n1 c1, .slice a2 n2 c2, .slice a3 n3 c3], .int .i64 a, .int .i64 b] w (DaysPost (daysL u ev f cn un ws ms ns a b) w) := by
  obtain ⟨i0, hi, hz0, hz1, hz2⟩ := info_parts Try.infoInt'
  have OK := Lib.hid ok
  obtain ⟨o1, o2, o3, o4, o5, o6, o7, o8, o9, o10, o11, o12, o13, o14⟩ := ok
  have H1 := Lib.hid h1; have H2 := Lib.hid h2; have H3 := Lib.hid h3; clear h1 h2 h3
  obtain ⟨M, hM⟩ : ∃ M, M = minI b un := ⟨_, rfl⟩
  have hm1 : -4000000 ≤ M ∧ M ≤ 4000000 ∧ M ≤ un := by rw [hM]; unfold minI; split <;> omega
  obtain ⟨hm1, hm2, hm3⟩ := hm1
  obtain ⟨ZS, hZ⟩ : ∃ ZS, ZS = daysL u ev f cn un ws ms ns a b := ⟨_, rfl⟩
  rw [← hZ]
  have hZ' : ZS = refL (fitR u ev f ws ms ns) cn a (M + 1 - f).toNat f 0 := by rw [days_ref _ _ _ _ _ o10, hZ, hM]; rfl
  have HZ := Lib.hid hZ'; have HM := Lib.hid hM
  have hZin : ∀ z ∈ ZS, I64 z := by
    intro z hz
    rw [hZ] at hz
    have h := listP_in _ _ _ _ _ _ z hz
    have : -4000000 ≤ lowOf f cn a ∨ True := .inr trivial
    unfold I64
    have hl : f ≤ lowOf f cn a := by unfold lowOf; split <;> (try split) <;> omega
    rw [← hM] at h
    omega
  have ZIN := Lib.hid hZin
  clear hZ hZ' hM hZin
  go_enter Try.func10, Try.ntmps10
  go_wp2_with fail
  have t0 := At.new w (.cells #[.int .i64 u, .int .i64 ev, .int .i64 f, .int .i64 cn, .int .i64 un, .slice a1 n1 c1, .slice a2 n2 c2, .slice a3 n3 c3] 24)
  have b0 := below_new (Below.refl w.heap.size w) (.cells #[.int .i64 u, .int .i64 ev, .int .i64 f, .int .i64 cn, .int .i64 un, .slice a1 n1 c1, .slice a2 n2 c2, .slice a3 n3 c3] 24)
  generalize World.alloc w _ = W2 at t0 b0 ⊢
  have hlt0 := t0.lt
  have B0 := Lib.hid b0
  have A0 := Lib.hid t0
  have y2 : W2.cell? ⟨w.heap.size, 2, none⟩ = some (.int .i64 f) := t0.cell 2
  clear t0 b0
  go_wp2_with fail
  go_loopw [7, 8, 9] (fun v cv dv wr => ∃ (x c : Int) (m : Nat) (zs : List Int), dv = .int .i64 x ∧ cv = .int .i64 c ∧ f ≤ x ∧ (x ≤ M + 1 ∨ x = f) ∧ 0 ≤ c ∧ c ≤ x - f ∧ (m : Int) ≤ x - f ∧ zs.length = m ∧ wr.ownsRow W2.heap.size 3 1 v m (zs.map (Value.int .i64)) ∧ zs ++ refL (fitR u ev f ws ms ns) cn a (M + 1 - x).toNat x c = ZS ∧ Below W2.heap.size W2 wr) (fun _ _ dv _ => (M + 1 - intOf dv).toNat)
  case atStart => exact ⟨f, 0, 0, [], rfl, rfl, by omega, .inr rfl, by omega, by omega, by omega, rfl, World.ownsRow_nil _ _ _ _, HZ.out.symm, Below.refl _ _⟩
  case round =>
    clear y2
    obtain ⟨x, c, m, zs, rfl, rfl, hx1, hx2, hc1, hc2, hmx, hlen, hown, hgo, bw⟩ := hrel
    have OWN := Lib.hid hown; have LEN := Lib.hid hlen; clear hown hlen
    have t0 := A0.out.then_ bw
    have y0 : wr.cell? ⟨w.heap.size, 0, none⟩ = some (.int .i64 u) := t0.cell 0; have y1 : wr.cell? ⟨w.heap.size, 1, none⟩ = some (.int .i64 ev) := t0.cell 1; have y2 : wr.cell? ⟨w.heap.size, 2, none⟩ = some (.int .i64 f) := t0.cell 2; have y3 : wr.cell? ⟨w.heap.size, 3, none⟩ = some (.int .i64 cn) := t0.cell 3; have y4 : wr.cell? ⟨w.heap.size, 4, none⟩ = some (.int .i64 un) := t0.cell 4; have y5 : wr.cell? ⟨w.heap.size, 5, none⟩ = some (.slice a1 n1 c1) := t0.cell 5; have y6 : wr.cell? ⟨w.heap.size, 6, none⟩ = some (.slice a2 n2 c2) := t0.cell 6; have y7 : wr.cell? ⟨w.heap.size, 7, none⟩ = some (.slice a3 n3 c3) := t0.cell 7
    clear t0
    have hs0 : W2.heap.size ≤ wr.heap.size := bw.size
    by_cases hx : x ≤ M
    · have hmin : (b ≤ un ∧ x ≤ b) ∨ (¬ b ≤ un ∧ un < b ∧ x ≤ un) := by
        have h := HM.out
        unfold minI at h
        split at h <;> omega
      have hgo2 : (M + 1 - x).toNat = (M + 1 - (x + 1)).toNat + 1 := by omega
      rw [hgo2, refL] at hgo
      have hft := ref_RecurFits wr u ev f cn un a1 a2 a3 n1 n2 n3 c1 c2 c3 ws ms ns (H1.out.far B0.out bw) (H2.out.far B0.out bw) (H3.out.far B0.out bw) OK.out x hx1 (by omega)
      rw [refFit_eq] at hft
      generalize hFB : fitR u ev f ws ms ns x = FB at hft hgo
      clear hFB hgo2
      have HG := Lib.hid hgo
      have HFT := Lib.hid hft
      clear hgo hft
      rcases hmin with ⟨m1, m2⟩ | ⟨m1, m1', m2⟩
      all_goals
        go_wp2_with fail
        refine HFT.out.mono ?_
        rintro e w4 ⟨rfl, hb4⟩
        have own4 := own_thenR OWN.out hb4
        have bw4 := bw.trans (hb4.mono hs0)
        have t40 := A0.out.then_ bw4
        have e43 : w4.cell? ⟨w.heap.size, 3, none⟩ = some (.int .i64 cn) := t40.cell 3
        have hs4 : W2.heap.size ≤ w4.heap.size := bw4.size
        have OWN4 := Lib.hid own4
        clear own4 OWN hb4 y0 y1 y2 y3 y4 y5 y6 y7 t40
        cases FB with
        | false =>
          have HG2 := Lib.hid (show zs ++ refL (fitR u ev f ws ms ns) cn a (M + 1 - (x + 1)).toNat (x + 1) c = ZS by have h := HG.out; rw [if_neg (by simp)] at h; exact h)
          go_wp2_with fail
          go_roundw
          case rel => exact ⟨x + 1, c, m, zs, rfl, rfl, by omega, .inl (by omega), by omega, by omega, by omega, LEN.out, OWN4.out, HG2.out, bw4⟩
          case measure => simp [intOf]; omega
        | true =>
          have hwc : IntKind.i64.wrap (c + 1) = c + 1 := IntWalk.i64_in _ (by omega)
          have hg := HG.out
          rw [if_pos rfl] at hg
          by_cases hcc : (cn = 0 ∨ c + 1 ≤ cn) ∧ a ≤ x
          · rw [if_pos hcc] at hg
            have HG2 := Lib.hid hg
            have hcd : (decide (cn = 0) = true ∧ (cn == 0) = true) ∨ (decide (cn = 0) = false ∧ (cn == 0) = false ∧ decide (c + 1 ≤ cn) = true) := by
              by_cases h0 : cn = 0
              · left; simp [h0]
              · right; simp [h0]; omega
            have hax : decide (a ≤ x) = true := decide_eq_true hcc.2
            clear hg hcc
            rcases hcd with ⟨k1, k2⟩ | ⟨k1, k2, k3⟩
            all_goals
              go_wp2_with (at_builtin; refine wpList_append_own _ rfl _ _ 22 rfl (W2.heap.size) 3 i0 (.int .i64 0) 1 8 Try.underlying22 hi hz0 hz1 hz2 rfl (by decide) _ _ _ rfl (OWN4.out.alloc _) ⟨w4.heap.size, 0, none⟩ 1 1 [.int .i64 x] rfl rfl (World.news_of_block (cs := #[.int .i64 x]) (t := 3) (fr := (0, 0)) (heap_alloc_new w4 _)) (by simp [Value.oneCell']) (by unfold maxLen; omega) (by omega) (by first | omega | (simp; omega)) ?_; intro v' w4 hown' hgrow _)
              have bw5 : Below W2.heap.size W2 w4 := ((bw4.alloc hs4 (.cells #[.int .i64 x] 3))).grown hgrow (by simp; omega) (fun bb hbb => by
                rcases Nat.lt_or_ge bb W2.heap.size with h | h
                · exact absurd hbb.symm (own_above OWN4.out h)
                · omega)
              have OWN' := Lib.hid hown'
              clear hown' hgrow OWN4
              go_wp2_with fail
              go_roundw
              case rel => exact ⟨x + 1, c + 1, m + 1, zs ++ [x], rfl, rfl, by omega, .inl (by omega), by omega, by omega, by omega, by rw [List.length_append, LEN.out]; rfl, by rw [List.map_append]; exact OWN'.out, by rw [List.append_assoc]; exact HG2.out, bw5⟩
              case measure => simp [intOf]; omega
          · rw [if_neg hcc, List.nil_append] at hg
            have HG2 := Lib.hid hg
            have hcd : ((cn == 0) = true ∧ decide (a ≤ x) = false) ∨ ((cn == 0) = false ∧ decide (c + 1 ≤ cn) = false) ∨ ((cn == 0) = false ∧ decide (c + 1 ≤ cn) = true ∧ decide (a ≤ x) = false) := by
              simp; omega
            clear hg hcc
            rcases hcd with ⟨k1, k2⟩ | ⟨k1, k2⟩ | ⟨k1, k2, k3⟩
            all_goals
              go_wp2_with fail
              go_roundw
              case rel => exact ⟨x + 1, c + 1, m, zs, rfl, rfl, by omega, .inl (by omega), by omega, by omega, by omega, LEN.out, OWN4.out, HG2.out, bw4⟩
              case measure => simp [intOf]; omega
    · have hn0 : (M + 1 - x).toNat = 0 := by omega
      rw [hn0] at hgo
      rw [show refL (fitR u ev f ws ms ns) cn a 0 x c = [] from rfl, List.append_nil] at hgo
      have HG2 := Lib.hid hgo
      have hmin : (b ≤ un ∧ ¬ x ≤ b) ∨ (¬ b ≤ un ∧ un < b ∧ ¬ x ≤ un) := by
        have h := HM.out
        unfold minI at h
        split at h <;> omega
      have HI := Lib.hid (own_ints OWN.out (fun z hz => ZIN.out z (by rw [← HG2.out]; exact hz)) LEN.out)
      obtain ⟨aa, cc, rfl, hcap1, hcap2, hI⟩ := HI.out
      rw [HG2.out] at hI
      have HJ := Lib.hid hI
      clear hI HI OWN hgo hn0 hx
      rcases hmin with ⟨m1, m2⟩ | ⟨m1, m1', m2⟩
      all_goals
        go_wp2_with fail
        go_ret
        exact ⟨aa, m, cc, rfl, hcap1, hcap2, HJ.out, below_then B0.out bw⟩
/-- The range that the law looks at. -/
def nearOut (e f a b : Int) : Int × Int :=
  if e = 0 ∧ f + 400 < b then (minI (if a ≤ f + 300 then f + 300 else a) (f + 400), f + 400) else (a, b)
set_option maxHeartbeats 4000000 in
theorem law_near (w : World) (u ev f cn un : Int) (a1 a2 a3 : Option Addr) (n1 n2 n3 c1 c2 c3 : Nat) (ws ms ns : List Int)
    (h1 : Ints w w.heap.size a1 n1 ws) (h2 : Ints w w.heap.size a2 n2 ms) (h3 : Ints w w.heap.size a3 n3 ns) (k1 : n1 ≤ c1) (k2 : n2 ≤ c2) (k3 : n3 ≤ c3) (m1 : c1 ≤ 9223372036854775807) (m2 : c2 ≤ 9223372036854775807) (m3 : c3 ≤ 9223372036854775807) (a b : Int) :
    Calls Try.prog 8 #[.agg #[.int .i64 u, .int .i64 ev, .int .i64 f, .int .i64 cn, .int .i64 un, .slice a1 n1 c1, .slice a2 n2 c2, .slice a3 n3 c3], .int .i64 a, .int .i64 b] w fun e w' => e = .returned (.tuple #[.int .i64 (nearOut (daysErr u ev f cn un ws ms ns a b) f a b).1, .int .i64 (nearOut (daysErr u ev f cn un ws ms ns a b) f a b).2]) ∧ Below w.heap.size w w' := by
  have H1 := Lib.hid h1; have H2 := Lib.hid h2; have H3 := Lib.hid h3; clear h1 h2 h3
  obtain ⟨E, hE⟩ : ∃ E, E = daysErr u ev f cn un ws ms ns a b := ⟨_, rfl⟩
  rw [← hE]
  have HE := Lib.hid hE
  have hfr : E = 0 → -4000000 ≤ f ∧ f ≤ 4000000 ∧ -4000000 ≤ a ∧ a ≤ 4000000 := by
    intro h0
    rw [hE] at h0
    unfold daysErr at h0
    split at h0
    · rename_i q; exact absurd h0 q
    · rename_i q
      have o := recOk_of (Decidable.not_not.1 q)
      have z := rangeErr_zero h0
      exact ⟨o.f1, o.f2, z.1, z.2.1⟩
  have HFR := Lib.hid hfr
  clear hE hfr
  go_enter Try.func8, Try.ntmps8
  go_wp2_with fail
  have t0 := At.new w (.cells #[.int .i64 u, .int .i64 ev, .int .i64 f, .int .i64 cn, .int .i64 un, .slice a1 n1 c1, .slice a2 n2 c2, .slice a3 n3 c3] 24)
  have b0 := below_new (Below.refl w.heap.size w) (.cells #[.int .i64 u, .int .i64 ev, .int .i64 f, .int .i64 cn, .int .i64 un, .slice a1 n1 c1, .slice a2 n2 c2, .slice a3 n3 c3] 24)
  generalize World.alloc w _ = W2 at t0 b0 ⊢
  have B0 := Lib.hid b0
  have y0 : W2.cell? ⟨w.heap.size, 0, none⟩ = some (.int .i64 u) := t0.cell 0; have y1 : W2.cell? ⟨w.heap.size, 1, none⟩ = some (.int .i64 ev) := t0.cell 1; have y2 : W2.cell? ⟨w.heap.size, 2, none⟩ = some (.int .i64 f) := t0.cell 2; have y3 : W2.cell? ⟨w.heap.size, 3, none⟩ = some (.int .i64 cn) := t0.cell 3; have y4 : W2.cell? ⟨w.heap.size, 4, none⟩ = some (.int .i64 un) := t0.cell 4; have y5 : W2.cell? ⟨w.heap.size, 5, none⟩ = some (.slice a1 n1 c1) := t0.cell 5; have y6 : W2.cell? ⟨w.heap.size, 6, none⟩ = some (.slice a2 n2 c2) := t0.cell 6; have y7 : W2.cell? ⟨w.heap.size, 7, none⟩ = some (.slice a3 n3 c3) := t0.cell 7
  refine (law_recurError W2 u ev f cn un a1 a2 a3 n1 n2 n3 c1 c2 c3 ws ms ns (H1.out.far b0 (Below.refl _ _)) (H2.out.far b0 (Below.refl _ _)) (H3.out.far b0 (Below.refl _ _)) k1 k2 k3 m1 m2 m3 a b).mono ?_
  rw [← HE.out]
  rintro e w1 ⟨rfl, hb⟩
  have b1 := below_then b0 hb
  have B1 := Lib.hid b1
  replace t0 := t0.then_ hb
  clear y0 y1 y2 y3 y4 y5 y6 y7 b0 hb b1
  have y0 : w1.cell? ⟨w.heap.size, 0, none⟩ = some (.int .i64 u) := t0.cell 0; have y1 : w1.cell? ⟨w.heap.size, 1, none⟩ = some (.int .i64 ev) := t0.cell 1; have y2 : w1.cell? ⟨w.heap.size, 2, none⟩ = some (.int .i64 f) := t0.cell 2; have y3 : w1.cell? ⟨w.heap.size, 3, none⟩ = some (.int .i64 cn) := t0.cell 3; have y4 : w1.cell? ⟨w.heap.size, 4, none⟩ = some (.int .i64 un) := t0.cell 4; have y5 : w1.cell? ⟨w.heap.size, 5, none⟩ = some (.slice a1 n1 c1) := t0.cell 5; have y6 : w1.cell? ⟨w.heap.size, 6, none⟩ = some (.slice a2 n2 c2) := t0.cell 6; have y7 : w1.cell? ⟨w.heap.size, 7, none⟩ = some (.slice a3 n3 c3) := t0.cell 7
  clear t0
  by_cases hz : E = 0
  · obtain ⟨f1, f2, r1, r2⟩ := HFR.out hz
    subst hz
    have hw4 : IntKind.i64.wrap (f + 400) = f + 400 := IntWalk.i64_in _ (by omega)
    have hw3 : IntKind.i64.wrap (f + 300) = f + 300 := IntWalk.i64_in _ (by omega)
    by_cases hb : f + 400 < b
    · have hno := Lib.hid (show nearOut 0 f a b = (minI (if a ≤ f + 300 then f + 300 else a) (f + 400), f + 400) by unfold nearOut; rw [if_pos ⟨rfl, hb⟩])
      by_cases ha : a < f + 300
      · have hm : f + 300 ≤ f + 400 := by omega
        have hno2 := Lib.hid (show nearOut 0 f a b = (f + 300, f + 400) by rw [hno.out, if_pos (show a ≤ f + 300 by omega), minI, if_pos hm])
        clear hno
        go_wp2_with fail
        go_quiet (fail)
        go_wp2_with fail
        go_ret2
        exact ⟨by rw [hno2.out]; rfl, by (repeat' (first | exact Below.refl _ _ | assumption | refine Below.drew ?_ | refine below_drewN ?_ _ | refine below_new ?_ _ | refine below_set ?_ ?_ _ | refine below_then ?_ (by assumption) | refine below_drawn ?_ (by assumption) | exact Nat.le_refl _ | omega | (simp; done) | (simp; omega)))⟩
      · have ha' : f + 300 ≤ a := by omega
        have hax : (if a ≤ f + 300 then f + 300 else a) = a := by split <;> omega
        have HAX := Lib.hid hax
        clear hax
        by_cases hm : a ≤ f + 400
        · have hno2 := Lib.hid (show nearOut 0 f a b = (a, f + 400) by rw [hno.out, HAX.out, minI, if_pos hm])
          clear hno
          go_wp2_with fail
          go_quiet (fail)
          go_wp2_with fail
          go_ret2
          exact ⟨by rw [hno2.out]; rfl, by (repeat' (first | exact Below.refl _ _ | assumption | refine Below.drew ?_ | refine below_drewN ?_ _ | refine below_new ?_ _ | refine below_set ?_ ?_ _ | refine below_then ?_ (by assumption) | refine below_drawn ?_ (by assumption) | exact Nat.le_refl _ | omega | (simp; done) | (simp; omega)))⟩
        · have hm' : f + 400 < a := by omega
          have hno2 := Lib.hid (show nearOut 0 f a b = (f + 400, f + 400) by rw [hno.out, HAX.out, minI, if_neg hm])
          clear hno
          go_wp2_with fail
          go_quiet (fail)
          go_wp2_with fail
          go_ret2
          exact ⟨by rw [hno2.out]; rfl, by (repeat' (first | exact Below.refl _ _ | assumption | refine Below.drew ?_ | refine below_drewN ?_ _ | refine below_new ?_ _ | refine below_set ?_ ?_ _ | refine below_then ?_ (by assumption) | refine below_drawn ?_ (by assumption) | exact Nat.le_refl _ | omega | (simp; done) | (simp; omega)))⟩
    · have hno := Lib.hid (show nearOut 0 f a b = (a, b) by unfold nearOut; rw [if_neg (fun h => hb h.2)])
      have hb' : decide (f + 400 < b) = false := decide_eq_false hb
      clear hb
      go_wp2_with fail
      go_ret2
      exact ⟨by rw [hno.out]; rfl, by (repeat' (first | exact Below.refl _ _ | assumption | refine Below.drew ?_ | refine below_drewN ?_ _ | refine below_new ?_ _ | refine below_set ?_ ?_ _ | refine below_then ?_ (by assumption) | refine below_drawn ?_ (by assumption) | exact Nat.le_refl _ | omega | (simp; done) | (simp; omega)))⟩
  · have hz' : (E == 0) = false := by simpa using hz
    have hno := Lib.hid (show nearOut E f a b = (a, b) by unfold nearOut; rw [if_neg (fun h => hz h.1)])
    clear hz
    go_wp2_with fail
    go_ret2
    exact ⟨by rw [hno.out]; rfl, by (repeat' (first | exact Below.refl _ _ | assumption | refine Below.drew ?_ | refine below_drewN ?_ _ | refine below_new ?_ _ | refine below_set ?_ ?_ _ | refine below_then ?_ (by assumption) | refine below_drawn ?_ (by assumption) | exact Nat.le_refl _ | omega | (simp; done) | (simp; omega)))⟩
end Go.Proofs.Ythejjpnljdphnaa
