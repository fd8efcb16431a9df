/- ForecastYears: the Go text returns true at every input, and writes nothing that was there. -/
import Derived.Test.YtjpbkkoflaajcabDoorFore6
namespace Go.Proofs.YtjpbkkoflaajcabDoor.forecastYearsLaw
set_option linter.unusedVariables false
set_option maxRecDepth 100000
open Go.RowKit Go.ChangeShapes Go.WideShapes greg

theorem lit_e : yearErr (sumRul 5) 3600000 2024 = 0 := by decide +kernel
theorem lit_l : yearList (sumRul 5) 3600000 2024 = [(63847526400000, 7200000, ⟨#[83, 85, 77]⟩)] := by decide +kernel
theorem yearErr_bad {xs : List Rul} {b y E : Int} (h : E = yearErr xs b y) (h0 : E ≠ 0) :
    rulesErr xs = E ∨ (rulesErr xs = 0 ∧ offB b = false ∧ E = 3) ∨ (rulesErr xs = 0 ∧ offB b = true ∧ inB (-10000) 10000 y = false ∧ E = 3) := by
  unfold yearErr at h
  by_cases q1 : rulesErr xs ≠ 0
  · rw [if_pos q1] at h; exact .inl h.symm
  · rw [if_neg q1] at h
    rcases Bool.eq_false_or_eq_true (offB b) with q2 | q2
    · rw [if_neg (by rw [q2]; simp)] at h
      rcases Bool.eq_false_or_eq_true (inB (-10000) 10000 y) with q3 | q3
      · rw [if_neg (by rw [q3]; simp)] at h; exact absurd h h0
      · rw [if_pos q3] at h; exact .inr (.inr ⟨by omega, q2, q3, h⟩)
    · rw [if_pos q2] at h; exact .inr (.inl ⟨by omega, q2, h⟩)
theorem yearErr_good {xs : List Rul} {b y : Int} (h : 0 = yearErr xs b y) : rulesErr xs = 0 ∧ offB b = true ∧ inB (-10000) 10000 y = true := by
  unfold yearErr at h
  by_cases q1 : rulesErr xs ≠ 0
  · rw [if_pos q1] at h; omega
  · rw [if_neg q1] at h
    rcases Bool.eq_false_or_eq_true (offB b) with q2 | q2
    · rw [if_neg (by rw [q2]; simp)] at h
      rcases Bool.eq_false_or_eq_true (inB (-10000) 10000 y) with q3 | q3
      · exact ⟨by omega, q2, q3⟩
      · rw [if_pos q3] at h; omega
    · rw [if_pos q2] at h; omega
set_option maxHeartbeats 4000000 in
theorem core (w : World) (a : Option Addr) (n c : Nat) (xs : List Rul) (b y : Int) (b1 : -9223372036854775808 ≤ b) (b2 : b ≤ 9223372036854775807) (h : Rules w w.heap.size a n xs) :
    Calls Tryd.prog 4 #[.slice a n c, .int .i64 b, .int .i64 y] w fun e w' => e = .returned (.bool true) ∧ Below w.heap.size w w' := by
  have HLB := Lib.hid (rules_lab h)
  have H := Lib.hid h; clear h
  go_enter Tryd.func4, Tryd.ntmps4
  go_wp2_with fail
  refine (law_summer _).mono ?_
  rintro e w1 ⟨rfl, a0, bw⟩
  go_wp2_with fail
  refine (forecast_Year _ _ _ _ (sumRul 5) 3600000 2024 (by omega) (by omega) (sum_at (by unfold I64; omega) a0)).mono ?_
  rintro e w2 ⟨sa, sn, sc, rfl, hch, hb⟩
  rw [lit_e]
  rw [lit_l] at hch
  replace bw := below_then bw hb
  obtain rfl : sn = 1 := by have := hch.len; simpa using this.symm
  obtain ⟨sb, so, rfl, hsb, hcs⟩ := hch.open_ (by omega)
  obtain ⟨z0, z1, z2, c0, _, _, hx, _⟩ := hcs 0 (by omega)
  simp only [List.getElem?_cons_zero, Option.some.injEq, Prod.mk.injEq] at hx
  obtain ⟨rfl, rfl, rfl⟩ := hx
  simp only [Nat.zero_mul, Nat.add_zero] at c0
  clear hb hcs hch a0
  go_wp2_with fail
  refine (forecast_Year _ a n c xs b y b1 b2 (H.out.then_ bw)).mono ?_
  obtain ⟨E, hE⟩ : ∃ E, E = yearErr xs b y := ⟨_, rfl⟩
  obtain ⟨L, hL⟩ : ∃ L, L = yearList xs b y := ⟨_, rfl⟩
  have HE := Lib.hid hE; have HL := Lib.hid hL; clear hE hL
  rintro e w3 ⟨la, ln, lc, rfl, hI, hb⟩
  rw [← HE.out]; rw [← HL.out] at hI
  replace bw := below_then bw hb
  have HI := Lib.hid hI; have HLN := Lib.hid hI.len
  clear hb hI c0
  go_wp2_with fail
  refine (ref_ZoneRulesError _ _ _ _ xs (H.out.then_ bw)).mono ?_
  by_cases q : E = 0
  case neg =>
    obtain rfl : L = [] := by rw [HL.out, yearList, if_pos (by rw [← HE.out]; exact q)]
    obtain rfl : ln = 0 := by have := HLN.out; simpa using this.symm
    clear HL HLN HI
    rcases yearErr_bad HE.out q with hz | ⟨hz, ho, hE3⟩ | ⟨hz, ho, hi, hE3⟩
    · rw [hz]
      have q' : (E != 0) = true := by simpa using q
      have q2 : (E == 0) = false := by simpa using q
      clear hz HE q
      rintro e w4 ⟨rfl, hb⟩
      replace bw := below_then bw hb
      clear hb
      go_wp2_with fail
      go_ret
      exact ⟨by simp, bw⟩
    · rw [hz]
      subst hE3
      clear hz HE q
      rintro e w4 ⟨rfl, hb⟩
      replace bw := below_then bw hb
      clear hb
      go_wp2_with fail
      refine (ref_Offset _ _ b1 b2).mono ?_; rw [ho]; rintro e w5 ⟨rfl, rfl⟩
      go_wp2_with fail
      go_ret
      exact ⟨by simp, bw⟩
    · rw [hz]
      subst hE3
      clear hz HE q
      rintro e w4 ⟨rfl, hb⟩
      replace bw := below_then bw hb
      clear hb
      go_wp2_with fail
      refine (ref_Offset _ _ b1 b2).mono ?_; rw [ho]; rintro e w5 ⟨rfl, rfl⟩
      go_wp2_with fail
      refine (ref_In _ _ _ _).mono ?_; rw [hi]; rintro e w6 ⟨rfl, rfl⟩
      go_wp2_with fail
      go_ret
      exact ⟨by simp, bw⟩
  subst q
  obtain ⟨hz, ho, hi⟩ := yearErr_good HE.out
  obtain ⟨o1, o2⟩ := offB_bound ho
  obtain ⟨i1, i2⟩ := inB_iff.1 hi
  have hLL : L = yearTo y b xs xs.length := by rw [HL.out, yearList, if_neg (by rw [← HE.out]; omega)]
  have HOK := Lib.hid (show ∀ x ∈ L, okChg x by rw [hLL]; exact yearTo_ok (rules_each hz) HLB.out o1 o2 i1 i2 xs.length)
  have hYL := yearTo_len (y := y) (b := b) (xs := xs) xs.length (Nat.le_refl _)
  rw [← hLL] at hYL
  have HYL := Lib.hid hYL; have HLL := Lib.hid hLL; have HZ := Lib.hid hz
  rw [hz]
  clear hz hLL hYL HL HE
  rintro e w4 ⟨rfl, hb⟩
  replace bw := below_then bw hb
  have b3 := hb
  clear hb
  go_wp2_with fail
  refine (ref_Offset _ _ b1 b2).mono ?_; rw [ho]; rintro e w5 ⟨rfl, rfl⟩
  go_wp2_with fail
  refine (ref_In _ _ _ _).mono ?_; rw [hi]; rintro e w6 ⟨rfl, rfl⟩
  clear ho hi
  go_wp2_with fail
  refine (ref_ZoneYear _ a n c xs b y HZ.out o1 o2 i1 i2 (H.out.then_ bw)).mono ?_
  rintro e w5 ⟨v, rfl, hown, hb⟩
  rw [← HLL.out] at hown
  obtain ⟨aa, cc, rfl, _, _, hch⟩ := own_changes hown HYL.out HOK.out
  obtain rfl : ln = xs.length := by rw [← HLN.out, HYL.out]
  replace bw := below_then bw hb
  replace b3 := below_then b3 hb
  have HCH := Lib.hid hch
  clear hown hch hb
  go_upto_region 11 with fail
  have ha := (At.new w5 (.cells #[.string ⟨#[]⟩, .int .i64 0, .slice la xs.length lc] 24)).alloc (.cells #[.string ⟨#[]⟩, .int .i64 0, .slice aa xs.length cc] 24)
  have hc := At.new1 w5 (.cells #[.string ⟨#[]⟩, .int .i64 0, .slice la xs.length lc] 24) (.cells #[.string ⟨#[]⟩, .int .i64 0, .slice aa xs.length cc] 24)
  have hb5 := below_new (below_new (Below.refl w5.heap.size w5) (.cells #[.string ⟨#[]⟩, .int .i64 0, .slice la xs.length lc] 24)) (.cells #[.string ⟨#[]⟩, .int .i64 0, .slice aa xs.length cc] 24)
  generalize World.alloc (World.alloc w5 _) _ = W6 at ha hc hb5 ⊢
  have x0 : W6.cell? ⟨w5.heap.size, 0, none⟩ = some (.string ⟨#[]⟩) := ha.cell 0
  have x1 : W6.cell? ⟨w5.heap.size, 1, none⟩ = some (.int .i64 0) := ha.cell 1
  have x2 : W6.cell? ⟨w5.heap.size, 2, none⟩ = some (.slice la xs.length lc) := ha.cell 2
  have y0 : W6.cell? ⟨w5.heap.size + 1, 0, none⟩ = some (.string ⟨#[]⟩) := hc.cell 0
  have y1 : W6.cell? ⟨w5.heap.size + 1, 1, none⟩ = some (.int .i64 0) := hc.cell 1
  have y2 : W6.cell? ⟨w5.heap.size + 1, 2, none⟩ = some (.slice aa xs.length cc) := hc.cell 2
  clear ha hc
  go_wp2_with fail
  refine (ref_SameZone _ ⟨#[]⟩ 0 la aa xs.length lc cc L (HI.out.then_ (below_then b3 hb5)) (HCH.out.then_ hb5)).mono ?_
  rintro e w7 ⟨rfl, hb⟩
  go_wp2_with fail
  go_ret
  exact ⟨by simp, below_then (below_then bw hb5) hb⟩
theorem walk {H : Type} {enc : TypeId × Value → H} {v0 v1 v2 : Value} {d0 d1 d2 : DataW H} {p0 p1 p2 : List MemPlace} {base : Nat} (W : World)
    (o0 : Value.okWide Tryd.prog W .any base 38 v0) (h0 : DataW.Trod enc Tryd.prog W 0 (fun _ => true) true 38 v0 d0 p0)
    (o1 : Value.okWide Tryd.prog W .any base 3 v1) (h1 : DataW.Trod enc Tryd.prog W 0 (fun _ => true) true 3 v1 d1 p1)
    (o2 : Value.okWide Tryd.prog W .any base 3 v2) (h2 : DataW.Trod enc Tryd.prog W 0 (fun _ => true) true 3 v2 d2 p2) :
    Calls Tryd.prog 4 #[v0, v1, v2] W fun e w' => e = .returned (.bool true) ∧ Below W.heap.size W w' := by
  obtain ⟨a3, n3, c3, rfl⟩ := okWide_slice Tryd.underlying38 o0
  obtain ⟨fuel, hf⟩ := h0
  obtain ⟨b3, m3, k3, zs, e, _, _, g3⟩ := open_Rules (by simpa [Value.cells] using hf)
  injection e with e1 e2 e3
  subst e1 e2 e3
  obtain ⟨x, rfl, rfl, rfl, wx⟩ := open_int Tryd.underlying3 o1 h1
  obtain ⟨y, rfl, rfl, rfl, wy⟩ := open_int Tryd.underlying3 o2 h2
  have hx := bounds_i64 wx
  exact core W _ _ _ zs x y hx.1 hx.2 g3
end Go.Proofs.YtjpbkkoflaajcabDoor.forecastYearsLaw
