/- ForecastExtends: the Go text returns true at every input, and writes nothing that was there. -/
import Derived.Test.YtjpbkkoflaajcabDoorFore8
import Derived.Laws.AppendOwnNone
namespace Go.Proofs.YtjpbkkoflaajcabDoor.forecastExtendsLaw
set_option linter.unusedVariables false
set_option maxRecDepth 100000
open Go.RowKit Go.ChangeShapes Go.WideShapes Go.Deep greg

theorem lit_e : extErr ⟨#[98, 97, 115, 101]⟩ 3600000 [] (sumRul 5) 2024 2025 = 0 := by decide +kernel
theorem lit_len : (extTo 3600000 (sumRul 5) 2024 [] 2).length = 2 := by decide +kernel
theorem lit_at : (extTo 3600000 (sumRul 5) 2024 [] 2)[0]? = some (63847526400000, 7200000, ⟨#[83, 85, 77]⟩) := by decide +kernel
/-- A zone, and that a nil slice of changes has no room. -/
theorem open_Zone0 {H : Type} {enc : TypeId × Value → H} {v : Value} {d : DataW H} {p : List MemPlace} {base : Nat} {W : World}
    (o : Value.okWide Tryd.prog W .any base 24 v) (h : DataW.Trod enc Tryd.prog W 0 (fun _ => true) true 24 v d p) :
    ∃ (s : ByteArray) (f : Int) (a : Option Addr) (n c : Nat) (xs : List Chg), v = .agg #[.string s, .int .i64 f, .slice a n c] ∧ s.size ≤ 9223372036854775807 ∧ I64 f ∧ (a = none → n = 0 ∧ c = 0) ∧ Changes W W.heap.size a n xs := by
  obtain ⟨cs, n, rfl, hl, hf⟩ := open_agg Tryd.underlying24 (by kernel_rfl) (by kernel_rfl) o h
  match cs, hl with
  | [v0, v1, v2], _ =>
    obtain ⟨_, _, e0, t0⟩ := hf 0 _ rfl
    obtain ⟨_, _, e1, t1⟩ := hf 1 _ rfl
    obtain ⟨_, _, e2, t2⟩ := hf 2 _ rfl
    obtain ⟨s, rfl, hs⟩ := open_str t0
    obtain ⟨x1, rfl, hx1⟩ := open_num t1
    simp at e0 e1 e2
    subst e0 e1 e2
    obtain ⟨a, n, c, xs, rfl, k1, m1, h1⟩ := open_Changes t2
    refine ⟨s, x1, a, n, c, xs, rfl, hs, hx1, ?_, h1⟩
    rcases open_slice Tryd.underlying22 t2 with ⟨hcs, _⟩ | ⟨a', len, cap, m, n', D, Pl, hcs, _⟩
    · simp at hcs
      intro _; exact ⟨hcs.2.1, hcs.2.2⟩
    · simp at hcs
      intro e; rw [hcs.1] at e; cases e
/-- What an extension gives. -/
def extOf (s : ByteArray) (f : Int) (xs : List Chg) (rs : List Rul) (a b : Int) : ByteArray × Int × List Chg := if extErr s f xs rs a b ≠ 0 then (⟨#[]⟩, 0, []) else (s, f, extTo f rs a xs (b - a + 1).toNat)
def ExtN (r : ByteArray × Int × List Chg) (E : Int) (w : World) (e : Ending) (w' : World) : Prop :=
  ∃ p n c, e = .returned (.tuple #[.agg #[.string r.1, .int .i64 r.2.1, .slice p n c], .int .i64 E]) ∧ Changes w' w'.heap.size p n r.2.2 ∧ Below w.heap.size w w'
theorem extN {s : ByteArray} {f : Int} {xs : List Chg} {rs : List Rul} {a b : Int} {w : World} {e : Ending} {w' : World} (h : ExtPost s f xs rs a b w e w') : ExtN (extOf s f xs rs a b) (extErr s f xs rs a b) w e w' := by
  rcases h with ⟨h0, he, hb⟩ | ⟨h0, p, n, c, he, hm, hb⟩
  · rw [extOf, if_pos h0]; exact ⟨none, 0, 0, he, changes_none _ _, hb⟩
  · rw [extOf, if_neg (by omega)]; exact ⟨p, n, c, by rw [h0]; exact he, hm, hb⟩
theorem ext_cases {s : ByteArray} {f : Int} {xs : List Chg} {rs : List Rul} {a b E : Int} (h : E = extErr s f xs rs a b) :
    (rulesErr rs ≠ 0 ∧ rulesErr rs = E) ∨ (rulesErr rs = 0 ∧ zoneErr s f xs ≠ 0 ∧ zoneErr s f xs = E) ∨
    (rulesErr rs = 0 ∧ zoneErr s f xs = 0 ∧ inB (-10000) 10000 a = false ∧ E = 3) ∨
    (rulesErr rs = 0 ∧ zoneErr s f xs = 0 ∧ inB (-10000) 10000 a = true ∧ inB a 10000 b = false ∧ E = 3) ∨
    (rulesErr rs = 0 ∧ zoneErr s f xs = 0 ∧ inB (-10000) 10000 a = true ∧ inB a 10000 b = true ∧ 50 < b - a ∧ E = 2) ∨
    (rulesErr rs = 0 ∧ zoneErr s f xs = 0 ∧ inB (-10000) 10000 a = true ∧ inB a 10000 b = true ∧ b - a ≤ 50 ∧ zoneErr s f (extTo f rs a xs (b - a + 1).toNat) = E) := by
  unfold extErr at h
  by_cases q1 : rulesErr rs ≠ 0
  · rw [if_pos q1] at h; exact .inl ⟨q1, h.symm⟩
  rw [if_neg q1] at h
  by_cases q2 : zoneErr s f xs ≠ 0
  · rw [if_pos q2] at h; exact .inr (.inl ⟨by omega, q2, h.symm⟩)
  rw [if_neg q2] at h
  rcases inB_cases (-10000) 10000 a with ⟨i1, j1, j2⟩ | ⟨i1, j1⟩
  case inr => rw [if_pos (by omega)] at h; exact .inr (.inr (.inl ⟨by omega, by omega, i1, h⟩))
  rcases inB_cases a 10000 b with ⟨i2, k1, k2⟩ | ⟨i2, k1⟩
  case inr => rw [if_pos (by omega)] at h; exact .inr (.inr (.inr (.inl ⟨by omega, by omega, i1, i2, h⟩)))
  rw [if_neg (by omega)] at h
  by_cases q3 : 50 < b - a
  · rw [if_pos q3] at h; exact .inr (.inr (.inr (.inr (.inl ⟨by omega, by omega, i1, i2, q3, h⟩))))
  · rw [if_neg q3] at h; exact .inr (.inr (.inr (.inr (.inr ⟨by omega, by omega, i1, i2, by omega, h.symm⟩))))
set_option maxHeartbeats 8000000 in
theorem core (w : World) (s : ByteArray) (f : Int) (p : Option Addr) (n c : Nat) (xs : List Chg) (pl : Option Addr) (nl cl : Nat) (rs : List Rul) (a b : Int) (hs : s.size ≤ 9223372036854775807) (f1 : -9223372036854775808 ≤ f) (f2 : f ≤ 9223372036854775807) (hpc : p = none → n = 0 ∧ c = 0) (h1 : Changes w w.heap.size p n xs) (h2 : Rules w w.heap.size pl nl rs) :
    Calls Tryd.prog 5 #[.agg #[.string s, .int .i64 f, .slice p n c], .slice pl nl cl, .int .i64 a, .int .i64 b] w fun e w' => e = .returned (.bool true) ∧ Below w.heap.size w w' := by
  obtain ⟨i0, hi, hz0, hz1, hz2⟩ := info_parts Tryd.infoChange
  have L1 := Lib.hid h1.len; have L2 := Lib.hid h2.len
  have HLB := Lib.hid (rules_lab h2); have HCO := Lib.hid h1.2; have HPC := Lib.hid hpc
  have H1 := Lib.hid h1; have H2 := Lib.hid h2; clear h1 h2 hpc
  go_enter Tryd.func5, Tryd.ntmps5
  go_wp2_with fail
  refine (law_summer _).mono ?_
  rintro e w1 ⟨rfl, asu, hb⟩
  have o0 := (One.new w (.cells #[.string s, .int .i64 f, .slice p n c] 24)).step hb
  simp only [World.size_alloc] at asu
  clear hb
  go_wp2_with fail
  refine (forecast_Extend _ ⟨#[98, 97, 115, 101]⟩ 3600000 none 0 0 [] _ 1 1 (sumRul 5) 2024 2025 (by decide) (by omega) (by omega) (changes_none _ _) (sum_at (by unfold I64; omega) asu)).mono ?_
  rintro e w2 hcp
  rcases hcp with ⟨h0, _⟩ | ⟨_, p1, q1, r1, rfl, hch, hb⟩
  · exact absurd lit_e h0
  rw [show ((2025 : Int) - 2024 + 1).toNat = 2 by decide] at hch
  obtain rfl : q1 = 2 := by have := hch.len; rw [lit_len] at this; exact this.symm
  obtain ⟨xb, xo, rfl, hxb, hcs⟩ := hch.open_ (by omega)
  obtain ⟨z0, z1, z2, c0, _, _, hx, _⟩ := hcs 0 (by omega)
  rw [lit_at] at hx
  simp only [Option.some.injEq, Prod.mk.injEq] at hx
  obtain ⟨rfl, rfl, rfl⟩ := hx
  simp only [Nat.zero_mul, Nat.add_zero] at c0
  replace o0 := o0.step hb
  clear hb hcs hch asu
  go_upto_region 2 with fail
  have o1 := o0.alloc (.cells #[.string ⟨#[98, 97, 115, 101]⟩, .int .i64 3600000, .slice (some ⟨xb, xo, none⟩) 2 r1] 24)
  have a1 := At.new w2 (.cells #[.string ⟨#[98, 97, 115, 101]⟩, .int .i64 3600000, .slice (some ⟨xb, xo, none⟩) 2 r1] 24)
  have c1 : (w2.alloc (.cells #[.string ⟨#[98, 97, 115, 101]⟩, .int .i64 3600000, .slice (some ⟨xb, xo, none⟩) 2 r1] 24)).cell? ⟨xb, xo, none⟩ = some (.int .i64 63847526400000) := cell_allocF c0
  have hxb1 : xb < (w2.alloc (.cells #[.string ⟨#[98, 97, 115, 101]⟩, .int .i64 3600000, .slice (some ⟨xb, xo, none⟩) 2 r1] 24)).heap.size := by simp only [World.size_alloc]; omega
  clear c0 o0
  generalize World.alloc w2 _ = W3 at o1 a1 c1 hxb1 ⊢
  have x0 : W3.cell? ⟨w.heap.size, 0, none⟩ = some (.string s) := o1.1.cell 0
  have x1 : W3.cell? ⟨w.heap.size, 1, none⟩ = some (.int .i64 f) := o1.1.cell 1
  have x2 : W3.cell? ⟨w.heap.size, 2, none⟩ = some (.slice p n c) := o1.1.cell 2
  have y2 : W3.cell? ⟨w2.heap.size, 2, none⟩ = some (.slice (some ⟨xb, xo, none⟩) 2 r1) := a1.cell 2
  go_wp2_with fail
  clear a1 c1 hxb1 y2 x0 x1 x2
  obtain ⟨E, hE⟩ : ∃ E, E = extErr s f xs rs a b := ⟨_, rfl⟩
  obtain ⟨⟨S, F, LL⟩, hK⟩ : ∃ r, r = extOf s f xs rs a b := ⟨_, rfl⟩
  have HP := Lib.hid (show ∀ w e w', ExtPost s f xs rs a b w e w' → ExtN (S, F, LL) E w e w' from fun w e w' h => by rw [hE, hK]; exact extN h)
  have HE := Lib.hid hE; have HK := Lib.hid hK
  clear hE hK
  refine (forecast_Extend _ s f p n c xs pl nl cl rs a b hs f1 f2 (H1.out.then_ o1.2) (H2.out.then_ o1.2)).mono ?_
  intro e w4 hcp
  obtain ⟨p2, q2, r2, rfl, hM, hb⟩ := HP.out _ _ _ hcp
  simp only at hM
  replace o1 := o1.step hb
  have HM := Lib.hid hM
  clear hcp hM hb HP
  go_upto_region 5 with fail
  have o3 := o1.alloc (.cells #[.string S, .int .i64 F, .slice p2 q2 r2] 24)
  have ax := At.new w4 (.cells #[.string S, .int .i64 F, .slice p2 q2 r2] 24)
  have b4 := below_new (Below.refl w4.heap.size w4) (.cells #[.string S, .int .i64 F, .slice p2 q2 r2] 24)
  clear o1
  generalize World.alloc w4 _ = W5 at o3 ax b4 ⊢
  go_wp2_with fail
  refine (ref_ZoneRulesError _ pl nl cl rs (H2.out.then_ o3.2)).mono ?_
  have hbad : E ≠ 0 → S = ⟨#[]⟩ ∧ F = 0 ∧ LL = [] := fun h => by
    have k := HK.out
    rw [extOf, if_pos (by rw [← HE.out]; exact h)] at k
    injection k with k1 k2
    injection k2 with k2 k3
    exact ⟨k1, k2, k3⟩
  have HBAD := Lib.hid hbad; clear hbad
  have hbad2 : E ≠ 0 → q2 = 0 := fun h => by have := HM.out.len; rw [(HBAD.out h).2.2] at this; exact this.symm
  have HBAD2 := Lib.hid hbad2; clear hbad2
  rcases ext_cases HE.out with ⟨hz0', hz⟩ | ⟨hr, hz0', hz⟩ | ⟨hr, hzo, hi1, hE3⟩ | ⟨hr, hzo, hi1, hi2, hE3⟩ | ⟨hr, hzo, hi1, hi2, h50, hE2⟩ | ⟨hr, hzo, hi1, hi2, h50, hz⟩
  · rw [hz]
    have Q := Lib.hid (show E ≠ 0 by rw [← hz]; exact hz0')
    obtain ⟨rfl, rfl, rfl⟩ := HBAD.out Q.out
    obtain rfl := HBAD2.out Q.out
    have q' : (E != 0) = true := by simpa using Q.out
    have q2' : (E == 0) = false := by simpa using Q.out
    clear hz hz0'
    clear HBAD HBAD2 HK HE
    rintro e w6 ⟨rfl, hb⟩
    replace o3 := o3.step hb
    replace ax := ax.then_ hb
    replace b4 := below_then b4 hb
    clear hb
    have y0 : w6.cell? ⟨w4.heap.size, 0, none⟩ = some (.string ⟨#[]⟩) := ax.cell 0
    have y1 : w6.cell? ⟨w4.heap.size, 1, none⟩ = some (.int .i64 0) := ax.cell 1
    have y2 : w6.cell? ⟨w4.heap.size, 2, none⟩ = some (.slice p2 0 r2) := ax.cell 2
    go_wp2_with fail
    refine (ref_SameZone _ ⟨#[]⟩ 0 p2 none 0 r2 0 [] (HM.out.then_ b4) (changes_none _ _)).mono ?_
    rintro e W9 ⟨rfl, hb⟩
    go_wp2_with fail
    go_ret
    exact ⟨by simp, below_then o3.2 hb⟩
  · rw [hr]
    have Q := Lib.hid (show E ≠ 0 by rw [← hz]; exact hz0')
    obtain ⟨rfl, rfl, rfl⟩ := HBAD.out Q.out
    obtain rfl := HBAD2.out Q.out
    have q' : (E != 0) = true := by simpa using Q.out
    have q2' : (E == 0) = false := by simpa using Q.out
    have HZ := Lib.hid hz
    clear hz hz0' hr
    clear HBAD HBAD2 HK HE
    rintro e w6 ⟨rfl, hb⟩
    replace o3 := o3.step hb
    replace ax := ax.then_ hb
    replace b4 := below_then b4 hb
    clear hb
    have x0 : w6.cell? ⟨w.heap.size, 0, none⟩ = some (.string s) := o3.1.cell 0
    have x1 : w6.cell? ⟨w.heap.size, 1, none⟩ = some (.int .i64 f) := o3.1.cell 1
    have x2 : w6.cell? ⟨w.heap.size, 2, none⟩ = some (.slice p n c) := o3.1.cell 2
    go_wp2_with fail
    refine (ref_ZoneError _ _ _ _ _ _ xs hs f1 f2 (H1.out.then_ o3.2)).mono ?_
    rw [HZ.out]
    rintro e w7 ⟨rfl, hb⟩
    replace o3 := o3.step hb
    replace ax := ax.then_ hb
    replace b4 := below_then b4 hb
    clear hb
    clear x0 x1 x2
    have y0 : w7.cell? ⟨w4.heap.size, 0, none⟩ = some (.string ⟨#[]⟩) := ax.cell 0
    have y1 : w7.cell? ⟨w4.heap.size, 1, none⟩ = some (.int .i64 0) := ax.cell 1
    have y2 : w7.cell? ⟨w4.heap.size, 2, none⟩ = some (.slice p2 0 r2) := ax.cell 2
    go_wp2_with fail
    refine (ref_SameZone _ ⟨#[]⟩ 0 p2 none 0 r2 0 [] (HM.out.then_ b4) (changes_none _ _)).mono ?_
    rintro e W9 ⟨rfl, hb⟩
    go_wp2_with fail
    go_ret
    exact ⟨by simp, below_then o3.2 hb⟩
  · rw [hr]
    subst hE3
    obtain ⟨rfl, rfl, rfl⟩ := HBAD.out (by omega)
    obtain rfl := HBAD2.out (by omega)
    have HZ := Lib.hid hzo
    clear hzo hr
    clear HBAD HBAD2 HK HE
    rintro e w6 ⟨rfl, hb⟩
    replace o3 := o3.step hb
    replace ax := ax.then_ hb
    replace b4 := below_then b4 hb
    clear hb
    have x0 : w6.cell? ⟨w.heap.size, 0, none⟩ = some (.string s) := o3.1.cell 0
    have x1 : w6.cell? ⟨w.heap.size, 1, none⟩ = some (.int .i64 f) := o3.1.cell 1
    have x2 : w6.cell? ⟨w.heap.size, 2, none⟩ = some (.slice p n c) := o3.1.cell 2
    go_wp2_with fail
    refine (ref_ZoneError _ _ _ _ _ _ xs hs f1 f2 (H1.out.then_ o3.2)).mono ?_
    rw [HZ.out]
    rintro e w7 ⟨rfl, hb⟩
    replace o3 := o3.step hb
    replace ax := ax.then_ hb
    replace b4 := below_then b4 hb
    clear hb
    clear x0 x1 x2
    have y0 : w7.cell? ⟨w4.heap.size, 0, none⟩ = some (.string ⟨#[]⟩) := ax.cell 0
    have y1 : w7.cell? ⟨w4.heap.size, 1, none⟩ = some (.int .i64 0) := ax.cell 1
    have y2 : w7.cell? ⟨w4.heap.size, 2, none⟩ = some (.slice p2 0 r2) := ax.cell 2
    go_wp2_with fail
    refine (ref_In _ _ _ _).mono ?_; rw [hi1]; rintro e w8 ⟨rfl, rfl⟩
    go_wp2_with fail
    refine (ref_SameZone _ ⟨#[]⟩ 0 p2 none 0 r2 0 [] (HM.out.then_ b4) (changes_none _ _)).mono ?_
    rintro e W9 ⟨rfl, hb⟩
    go_wp2_with fail
    go_ret
    exact ⟨by simp, below_then o3.2 hb⟩
  · rw [hr]
    subst hE3
    obtain ⟨rfl, rfl, rfl⟩ := HBAD.out (by omega)
    obtain rfl := HBAD2.out (by omega)
    have HZ := Lib.hid hzo
    clear hzo hr
    clear HBAD HBAD2 HK HE
    rintro e w6 ⟨rfl, hb⟩
    replace o3 := o3.step hb
    replace ax := ax.then_ hb
    replace b4 := below_then b4 hb
    clear hb
    have x0 : w6.cell? ⟨w.heap.size, 0, none⟩ = some (.string s) := o3.1.cell 0
    have x1 : w6.cell? ⟨w.heap.size, 1, none⟩ = some (.int .i64 f) := o3.1.cell 1
    have x2 : w6.cell? ⟨w.heap.size, 2, none⟩ = some (.slice p n c) := o3.1.cell 2
    go_wp2_with fail
    refine (ref_ZoneError _ _ _ _ _ _ xs hs f1 f2 (H1.out.then_ o3.2)).mono ?_
    rw [HZ.out]
    rintro e w7 ⟨rfl, hb⟩
    replace o3 := o3.step hb
    replace ax := ax.then_ hb
    replace b4 := below_then b4 hb
    clear hb
    clear x0 x1 x2
    have y0 : w7.cell? ⟨w4.heap.size, 0, none⟩ = some (.string ⟨#[]⟩) := ax.cell 0
    have y1 : w7.cell? ⟨w4.heap.size, 1, none⟩ = some (.int .i64 0) := ax.cell 1
    have y2 : w7.cell? ⟨w4.heap.size, 2, none⟩ = some (.slice p2 0 r2) := ax.cell 2
    go_wp2_with fail
    refine (ref_In _ _ _ _).mono ?_; rw [hi1]; rintro e w8 ⟨rfl, rfl⟩
    go_wp2_with fail
    refine (ref_In _ _ _ _).mono ?_; rw [hi2]; rintro e w8 ⟨rfl, rfl⟩
    go_wp2_with fail
    refine (ref_SameZone _ ⟨#[]⟩ 0 p2 none 0 r2 0 [] (HM.out.then_ b4) (changes_none _ _)).mono ?_
    rintro e W9 ⟨rfl, hb⟩
    go_wp2_with fail
    go_ret
    exact ⟨by simp, below_then o3.2 hb⟩
  · rw [hr]
    subst hE2
    obtain ⟨rfl, rfl, rfl⟩ := HBAD.out (by omega)
    obtain rfl := HBAD2.out (by omega)
    have HZ := Lib.hid hzo
    clear hzo hr
    clear HBAD HBAD2 HK HE
    rintro e w6 ⟨rfl, hb⟩
    replace o3 := o3.step hb
    replace ax := ax.then_ hb
    replace b4 := below_then b4 hb
    clear hb
    have x0 : w6.cell? ⟨w.heap.size, 0, none⟩ = some (.string s) := o3.1.cell 0
    have x1 : w6.cell? ⟨w.heap.size, 1, none⟩ = some (.int .i64 f) := o3.1.cell 1
    have x2 : w6.cell? ⟨w.heap.size, 2, none⟩ = some (.slice p n c) := o3.1.cell 2
    obtain ⟨ja1, ja2⟩ := inB_iff.1 hi1
    obtain ⟨jb1, jb2⟩ := inB_iff.1 hi2
    have hwd : IntKind.i64.wrap (b - a) = b - a := IntWalk.i64_in _ (by omega)
    go_wp2_with fail
    refine (ref_ZoneError _ _ _ _ _ _ xs hs f1 f2 (H1.out.then_ o3.2)).mono ?_
    rw [HZ.out]
    rintro e w7 ⟨rfl, hb⟩
    replace o3 := o3.step hb
    replace ax := ax.then_ hb
    replace b4 := below_then b4 hb
    clear hb
    clear x0 x1 x2
    have y0 : w7.cell? ⟨w4.heap.size, 0, none⟩ = some (.string ⟨#[]⟩) := ax.cell 0
    have y1 : w7.cell? ⟨w4.heap.size, 1, none⟩ = some (.int .i64 0) := ax.cell 1
    have y2 : w7.cell? ⟨w4.heap.size, 2, none⟩ = some (.slice p2 0 r2) := ax.cell 2
    go_wp2_with fail
    refine (ref_In _ _ _ _).mono ?_; rw [hi1]; rintro e w8 ⟨rfl, rfl⟩
    go_wp2_with fail
    refine (ref_In _ _ _ _).mono ?_; rw [hi2]; rintro e w8 ⟨rfl, rfl⟩
    go_wp2_with fail
    refine (ref_SameZone _ ⟨#[]⟩ 0 p2 none 0 r2 0 [] (HM.out.then_ b4) (changes_none _ _)).mono ?_
    rintro e W9 ⟨rfl, hb⟩
    go_wp2_with fail
    go_ret
    exact ⟨by simp, below_then o3.2 hb⟩
  rw [hr]
  obtain ⟨ja1, ja2⟩ := inB_iff.1 hi1
  obtain ⟨jb1, jb2⟩ := inB_iff.1 hi2
  have hwd : IntKind.i64.wrap (b - a) = b - a := IntWalk.i64_in _ (by omega)
  obtain ⟨J, rfl⟩ : ∃ J : Nat, b = a + (J : Int) := ⟨(b - a).toNat, by omega⟩
  have hJ : J ≤ 50 := by omega
  have h50' : a + (J : Int) - a ≤ 50 := h50
  rw [show (a + (J : Int) - a + 1).toNat = J + 1 by omega] at hz
  have HZE := Lib.hid hz
  have HGOOD := Lib.hid (show E = 0 → S = s ∧ F = f ∧ LL = extTo f rs a xs (J + 1) from fun h => by
    have k := HK.out
    rw [extOf, if_neg (by rw [← HE.out]; omega), show (a + (J : Int) - a + 1).toNat = J + 1 by omega] at k
    injection k with k1 k2
    injection k2 with k2 k3
    exact ⟨k1, k2, k3⟩)
  obtain ⟨zf, zx, zl⟩ := zoneErr_off hzo
  have ZF := Lib.hid zf; have ZX := Lib.hid zx
  have hn200 : n ≤ 200 := by have := L1.out; omega
  obtain ⟨rl1, rl2⟩ := rules_len hr
  have HEACH := Lib.hid (rules_each hr)
  have Q1 := Lib.hid hr; have HZO := Lib.hid hzo
  clear zf zx hz hr hzo h50 HK HE
  rintro e w6 ⟨rfl, hb⟩
  replace o3 := o3.step hb
  replace ax := ax.then_ hb
  replace b4 := below_then b4 hb
  clear hb
  have x0 : w6.cell? ⟨w.heap.size, 0, none⟩ = some (.string s) := o3.1.cell 0
  have x1 : w6.cell? ⟨w.heap.size, 1, none⟩ = some (.int .i64 f) := o3.1.cell 1
  have x2 : w6.cell? ⟨w.heap.size, 2, none⟩ = some (.slice p n c) := o3.1.cell 2
  go_wp2_with fail
  refine (ref_ZoneError _ _ _ _ _ _ xs hs f1 f2 (H1.out.then_ o3.2)).mono ?_
  rw [HZO.out]
  rintro e w7 ⟨rfl, hb⟩
  replace o3 := o3.step hb
  replace ax := ax.then_ hb
  replace b4 := below_then b4 hb
  clear hb
  clear x0 x1 x2
  have x0 : w7.cell? ⟨w.heap.size, 0, none⟩ = some (.string s) := o3.1.cell 0
  have x1 : w7.cell? ⟨w.heap.size, 1, none⟩ = some (.int .i64 f) := o3.1.cell 1
  have x2 : w7.cell? ⟨w.heap.size, 2, none⟩ = some (.slice p n c) := o3.1.cell 2
  go_wp2_with fail
  refine (ref_In _ _ _ _).mono ?_; rw [hi1]; rintro e w8 ⟨rfl, rfl⟩
  go_wp2_with fail
  refine (ref_In _ _ _ _).mono ?_; rw [hi2]; rintro e w8 ⟨rfl, rfl⟩
  clear hi1 hi2
  obtain ⟨w9, rfl⟩ : ∃ w9, w9 = w7 := ⟨_, rfl⟩
  go_upto_region 16 with fail
  have ac := At.new w9 (.cells #[.string s, .int .i64 f, .slice none 0 0] 24)
  have bc := below_new (Below.refl w9.heap.size w9) (.cells #[.string s, .int .i64 f, .slice none 0 0] 24)
  have B0w := o3.2
  have hl0 := o3.1.lt
  have hl4 := ax.lt
  have O3 := Lib.hid o3; have AX := Lib.hid ax; have B4 := Lib.hid b4
  clear x0 x1 x2 o3 ax b4
  have hse : (World.alloc w9 (.cells #[.string s, .int .i64 f, .slice none 0 0] 24)).heap.size = w9.heap.size + 1 := by simp only [World.size_alloc]
  generalize World.alloc w9 _ = W4 at ac bc hse ⊢
  have a4 := O3.out.1.then_ bc
  have x2 : W4.cell? ⟨w.heap.size, 2, none⟩ = some (.slice p n c) := a4.cell 2
  generalize hG : w9.heap.size = G at *
  have g2 : W4.cell? ⟨G, 2, none⟩ = some (.slice none 0 0) := ac.cell 2
  have g3 : W4.frozen? ⟨G, 2, none⟩ = false := ac.frozen 2
  have hgl4 := ac.lt
  have H1W := Lib.hid (H1.out.then_ (below_then B0w (show Below w9.heap.size w9 W4 by rw [hG]; exact bc)))
  go_cut [] from 88 to 94 (fun wx => ∃ v, wx.ownsRow (G + 1) 43 3 v n (xs.flatMap encChg) ∧ At wx G (.cells #[.string s, .int .i64 f, v] 24) ∧ Below G w9 wx)
  case first =>
    cases p with
    | none =>
      obtain ⟨rfl, rfl⟩ := HPC.out rfl
      obtain rfl : xs = [] := List.length_eq_zero_iff.1 L1.out
      have r0 : (W4.setCell ⟨G, 2, none⟩ (.slice none 0 0)).ownsRow (G + 1) 43 3 (.slice none 0 0) 0 [] := World.ownsRow_nil _ _ _ _
      have r1 := ac.store 2 (.slice none 0 0)
      have r2 := below_set bc (p := ⟨G, 2, none⟩) (Nat.le_refl _) (.slice none 0 0)
      go_wp2_with fail
      go_meet
      case rel => exact ⟨_, r0, r1, r2⟩
    | some ad =>
      have hnews := changes_news H1W.out
      have HL := Lib.hid L1.out
      go_wp2_with (at_builtin; refine wpList_append_own _ rfl _ _ 22 rfl (G + 1) 43 i0 (.agg #[.int .i64 0, .int .i64 0, .string ByteArray.empty]) 3 32 Tryd.underlying22 hi hz0 hz1 hz2 rfl (by decide) (.slice none 0 0) 0 [] rfl (World.ownsRow_nil _ _ _ _) ad n c (xs.flatMap encChg) rfl (by rw [chg_len, HL.out]) hnews (fun u hu => chg_one hu) (by unfold maxLen; omega) (by omega) (by omega) ?_; intro v' w5 hown hgrow _; (have hown2 : w5.ownsRow (G + 1) 43 3 v' n (xs.flatMap encChg) := by simpa using hown); (obtain ⟨va, vc, rfl, _, _, _⟩ := own_changes hown2 HL.out HCO.out); have ac5 := ac.grown6 hgrow (by simp [Value.ownBlock]); have bc5 := bc.grown hgrow (by omega) (by intro k hk; simp [Value.ownBlock] at hk); have k5 : w5.frozen? ⟨G, 2, none⟩ = false := ac5.frozen 2; have k6 : w5.cell? ⟨G, 2, none⟩ = some (.slice none 0 0) := ac5.cell 2; have hl5 := ac5.lt)
      have r0 := own_set8 hown2 (p := ⟨G, 2, none⟩) (by simp only; omega) (.slice va n vc)
      have r1 := ac5.store 2 (.slice va n vc)
      have r2 := below_set bc5 (p := ⟨G, 2, none⟩) (Nat.le_refl _) (.slice va n vc)
      go_wp2_with fail
      go_meet
      case rel => exact ⟨_, r0, r1, r2⟩
  case rest =>
  obtain ⟨v0, hown0, ac0, bc0⟩ := hcut
  obtain ⟨W6, rfl⟩ : ∃ W6, W6 = wc := ⟨_, rfl⟩
  clear ac bc hse a4 x2 g2 g3 hgl4 H1W
  go_wp2_with fail
  go_loopw [15, 16, 17] (fun vy _ _ wr => ∃ (j : Nat) (v : Value), j ≤ J + 1 ∧ vy = .int .i64 (a + (j : Int)) ∧ wr.ownsRow (G + 1) 43 3 v (n + j * rs.length) ((extTo f rs a xs j).flatMap encChg) ∧ At wr G (.cells #[.string s, .int .i64 f, v] 24) ∧ Below G w9 wr) (fun vy _ _ _ => J + 2 - (intOf vy - a).toNat)
  case atStart => exact ⟨0, v0, by omega, by simp, by simpa [extTo] using hown0, ac0, bc0⟩
  case round =>
    clear hown0 ac0 bc0
    obtain ⟨j, v, hj, rfl, hown, ac, bw⟩ := hrel
    have bw' : Below w9.heap.size w9 wr := by rw [hG]; exact bw
    have hbs := bw'.size
    have hgl := ac.lt
    have hm204 : j * rs.length ≤ 204 := Nat.le_trans (Nat.mul_le_mul (show j ≤ 51 by omega) rl2) (by omega)
    have HXOK := Lib.hid (extTo_ok (f := f) (a := a) HEACH.out HLB.out ZF.out ZX.out HCO.out ja1 j (by omega))
    have HXL := Lib.hid (show (extTo f rs a xs j).length = n + j * rs.length by rw [extTo_len, L1.out])
    obtain ⟨va, vc, rfl, _, _, hch⟩ := own_changes hown HXL.out HXOK.out
    have OWN := Lib.hid hown; have AC := Lib.hid ac; have BW := Lib.hid bw; have B0 := Lib.hid (below_then B0w bw'); have BWP := Lib.hid bw'; have HCH := Lib.hid hch
    clear hown bw hch bw'
    have g0 : wr.cell? ⟨G, 0, none⟩ = some (.string s) := ac.cell 0
    have g1 : wr.cell? ⟨G, 1, none⟩ = some (.int .i64 f) := ac.cell 1
    have g2 : wr.cell? ⟨G, 2, none⟩ = some (.slice va (n + j * rs.length) vc) := ac.cell 2
    by_cases hlt : j ≤ J
    · have hlt2 : a + (j : Int) ≤ a + (J : Int) := by omega
      have HYL := Lib.hid (yearTo_len (y := a + (j : Int)) (b := lastO f (extTo f rs a xs j)) (xs := rs) rs.length (Nat.le_refl _))
      obtain ⟨lb1, lb2⟩ := lastO_in ZF.out (extTo_off (f := f) (a := a) HEACH.out ZX.out j)
      have HYOK := Lib.hid (yearTo_ok (y := a + (j : Int)) HEACH.out HLB.out lb1 lb2 (by omega) (by omega) rs.length)
      obtain ⟨m, hm⟩ : ∃ m, m = n + j * rs.length := ⟨_, rfl⟩
      have hm2 : m ≤ 404 := by omega
      have hm3 := Lib.hid (show m + rs.length = n + (j + 1) * rs.length by rw [hm, Nat.add_mul, Nat.one_mul, Nat.add_assoc])
      rw [← hm] at OWN HXL HCH AC g2 ac
      clear hm204 hm
      go_upto_if 106 with fail
      obtain ⟨W7, rfl⟩ : ∃ W7, W7 = wr := ⟨_, rfl⟩
      go_cut [16] from 105 to 113 (fun vb wx => vb = .int .i64 (lastO f (extTo f rs a xs j)) ∧ W7 = wx)
      case first =>
        rcases Nat.eq_zero_or_pos m with hn0 | hn0
        · subst hn0
          have hx : lastO f (extTo f rs a xs j) = f := by rw [List.length_eq_zero_iff.1 HXL.out]; rfl
          have HX := Lib.hid hx; clear hx
          go_wp2_with fail
          go_meet
          case rel => exact ⟨by rw [HX.out], rfl⟩
        · obtain ⟨cb, co, rfl, hcb, hcs⟩ := HCH.out.open_ hn0
          obtain ⟨ta, oa, la, c0, c1, c2, hx, _⟩ := hcs (m - 1) (by omega)
          have HX := Lib.hid (lastO_at (f := f) (show (extTo f rs a xs j).length = m - 1 + 1 by have := HXL.out; omega) hx)
          have hpos : (0 : Int) < (m : Int) := by omega
          have hkm : m - 1 < m := by omega
          have hw0 : IntKind.i64.wrap ((m : Int) - 1) = ((m - 1 : Nat) : Int) := by rw [IntWalk.i64_in _ (by omega)]; omega
          clear hcs hx
          go_wp2_with fail
          go_meet
          case rel => exact ⟨by rw [HX.out], rfl⟩
      case rest =>
      obtain ⟨rfl, rfl⟩ := hcut
      obtain ⟨v, hv⟩ : ∃ v, v = Value.slice va m vc := ⟨_, rfl⟩
      have e2 : W7.drew.cell? ⟨G, 2, none⟩ = some (.slice va m vc) := ac.cell 2
      clear g0 g1 ac hv v
      go_upto_region 24 with fail
      go_region_law
        (first
          | (rw [if_pos (by rfl)]; go_simp; go_at_call 18; refine (ref_ZoneYear _ pl nl cl rs (lastO f (extTo f rs a xs j)) (a + (j : Int)) Q1.out lb1 lb2 (by omega) (by omega) (H2.out.then_ B0.out.drew)).mono ?_; rintro e w2 ⟨v2, rfl, hown2, hb⟩; (obtain ⟨pa, pc, rfl, _, _, hch⟩ := own_changes hown2 HYL.out HYOK.out); (obtain ⟨ad, rfl⟩ := changes_some hch (by have := L2.out; omega)); have hnews := changes_news hch; have x2 : w2.cell? ⟨G, 2, none⟩ = some (.slice va m vc) := (hb.cell (p := ⟨G, 2, none⟩) (by first | (simp only; omega) | (simp; omega))).trans e2; have ownw := own_then4 (w := W7.drew) OWN.out hb; have hg2 : G < w2.heap.size := Nat.lt_of_lt_of_le hgl hb.size)
          | (refine step_append_lies _ (by rfl) _ _ _ (by rfl) (G + 1) 43 i0 _ 3 32 Tryd.underlying22 hi hz0 hz1 hz2 rfl (by omega) (.slice va m vc) m ((extTo f rs a xs j).flatMap encChg) (by rfl) ownw ad rs.length pc ((yearTo (a + (j : Int)) (lastO f (extTo f rs a xs j)) rs rs.length).flatMap encChg) (by rfl) (by rw [chg_len, HYL.out]) hnews (fun u hu => chg_one hu) (by omega) (by unfold maxLen; omega) (by omega) (by omega) w2.heap.size rfl ?_; intro gg cap w4' hown' hgrow hat hltg; have hne : some G ≠ Value.ownBlock (.slice va m vc) := own_near ownw (by omega); have y4 : w4'.cell? ⟨G, 2, none⟩ = some (.slice va m vc) := (hgrow.cell_far ⟨G, 2, none⟩ hg2 hne).trans x2; have y5 : w4'.frozen? ⟨G, 2, none⟩ = false := (hgrow.frozen_far ⟨G, 2, none⟩ hg2 hne).trans (AC.out.drew.then_ hb |>.frozen 2)))
      · have ac4 := (AC.out.drew.then_ hb).grown6 hgrow hne
        have bw4 : Below G w9 w4' := ((BW.out.drew).trans (hb.mono (by show G ≤ W7.heap.size; omega))).grown hgrow (by omega) (fun b hb => by have := own_far5 ownw hb; omega)
        have own4 := own_set8 hown' (p := ⟨G, 2, none⟩) (by simp only; omega) (.slice (some ⟨gg, 0, none⟩) (m + rs.length) cap)
        have ac5 := ac4.store 2 (.slice (some ⟨gg, 0, none⟩) (m + rs.length) cap)
        have bw5 := below_set bw4 (p := ⟨G, 2, none⟩) (Nat.le_refl _) (.slice (some ⟨gg, 0, none⟩) (m + rs.length) cap)
        have ow4 := Lib.hid (show World.ownsRow _ (G + 1) 43 3 (.slice (some ⟨gg, 0, none⟩) (m + rs.length) cap) (n + (j + 1) * rs.length) ((extTo f rs a xs (j + 1)).flatMap encChg) by rw [← hm3.out, extTo_succ, List.flatMap_append]; exact own4)
        have AC5 := Lib.hid ac5; have BW5 := Lib.hid bw5
        clear own4 ac5 bw5 ac4 bw4
        go_wp2_with fail
        go_roundw
        case rel => exact ⟨j + 1, _, by omega, by go_num, ow4.out, AC5.out, BW5.out⟩
        case measure => first | (simp [intOf]; done) | (simp [intOf]; omega)
      · have ac4 := (AC.out.drew.then_ hb).grown6 hgrow hne
        have bw4 : Below G w9 w4' := ((BW.out.drew).trans (hb.mono (by show G ≤ W7.heap.size; omega))).grown hgrow (by omega) (fun b hb => by have := own_far5 ownw hb; omega)
        have own4 := own_set8 hown' (p := ⟨G, 2, none⟩) (by simp only; omega) (.slice (some ⟨gg, 0, none⟩) (m + rs.length) cap)
        have ac5 := ac4.store 2 (.slice (some ⟨gg, 0, none⟩) (m + rs.length) cap)
        have bw5 := below_set bw4 (p := ⟨G, 2, none⟩) (Nat.le_refl _) (.slice (some ⟨gg, 0, none⟩) (m + rs.length) cap)
        have ow4 := Lib.hid (show World.ownsRow _ (G + 1) 43 3 (.slice (some ⟨gg, 0, none⟩) (m + rs.length) cap) (n + (j + 1) * rs.length) ((extTo f rs a xs (j + 1)).flatMap encChg) by rw [← hm3.out, extTo_succ, List.flatMap_append]; exact own4)
        have AC5 := Lib.hid ac5; have BW5 := Lib.hid bw5
        clear own4 ac5 bw5 ac4 bw4
        go_wp2_with fail
        go_roundw
        case rel => exact ⟨j + 1, _, by omega, by go_num, ow4.out, AC5.out, BW5.out⟩
        case measure => first | (simp [intOf]; done) | (simp [intOf]; omega)
    · obtain rfl : j = J + 1 := by omega
      generalize hLL : extTo f rs a xs (J + 1) = ML at *
      generalize hMM : n + (J + 1) * rs.length = MM at *
      go_wp2_with fail
      refine (ref_ZoneError _ s f va MM vc ML hs f1 f2 HCH.out).mono ?_
      rw [HZE.out]
      clear g0 g1 g2
      have o3 := O3.out.step BWP.out
      have ax := AX.out.then_ BWP.out
      have b4 := below_then B4.out BWP.out
      by_cases q : E = 0
      case neg =>
        have Q := Lib.hid q
        obtain ⟨rfl, rfl, rfl⟩ := HBAD.out Q.out
        obtain rfl := HBAD2.out Q.out
        have q' : (E != 0) = true := by simpa using q
        clear q ac
        rintro e w10 ⟨rfl, hb⟩
        replace o3 := o3.step hb
        replace ax := ax.then_ hb
        replace b4 := below_then b4 hb
        clear hb
        have y0 : w10.cell? ⟨w4.heap.size, 0, none⟩ = some (.string ⟨#[]⟩) := ax.cell 0
        have y1 : w10.cell? ⟨w4.heap.size, 1, none⟩ = some (.int .i64 0) := ax.cell 1
        have y2 : w10.cell? ⟨w4.heap.size, 2, none⟩ = some (.slice p2 0 r2) := ax.cell 2
        go_wp2_with fail
        refine (ref_SameZone _ ⟨#[]⟩ 0 p2 none 0 r2 0 [] (HM.out.then_ b4) (changes_none _ _)).mono ?_
        rintro e W9 ⟨rfl, hb⟩
        go_wp2_with fail
        go_ret
        exact ⟨by simp, below_then o3.2 hb⟩
      subst q
      obtain ⟨rfl, rfl, rfl⟩ := HGOOD.out rfl
      obtain rfl : q2 = MM := by rw [← HM.out.len]; exact HXL.out
      rintro e w10 ⟨rfl, hb⟩
      have ac10 := ac.then_ hb
      have HCH2 := Lib.hid (HCH.out.then_ hb)
      replace o3 := o3.step hb
      replace ax := ax.then_ hb
      replace b4 := below_then b4 hb
      clear hb
      have y0 : w10.cell? ⟨w4.heap.size, 0, none⟩ = some (.string S) := ax.cell 0
      have y1 : w10.cell? ⟨w4.heap.size, 1, none⟩ = some (.int .i64 F) := ax.cell 1
      have y2 : w10.cell? ⟨w4.heap.size, 2, none⟩ = some (.slice p2 q2 r2) := ax.cell 2
      have g0 : w10.cell? ⟨G, 0, none⟩ = some (.string S) := ac10.cell 0
      have g1 : w10.cell? ⟨G, 1, none⟩ = some (.int .i64 F) := ac10.cell 1
      have g2 : w10.cell? ⟨G, 2, none⟩ = some (.slice va q2 vc) := ac10.cell 2
      go_wp2_with fail
      refine (ref_SameZone _ S F p2 va q2 r2 vc LL (HM.out.then_ b4) HCH2.out).mono ?_
      rintro e w11 ⟨rfl, hb⟩
      go_wp2_with fail
      go_ret
      exact ⟨by simp, below_then o3.2 hb⟩

theorem walk {H : Type} {enc : TypeId × Value → H} {v0 v1 v2 v3 : Value} {d0 d1 d2 d3 : DataW H} {p0 p1 p2 p3 : List MemPlace} {base : Nat} (W : World)
    (o0 : Value.okWide Tryd.prog W .any base 24 v0) (h0 : DataW.Trod enc Tryd.prog W 0 (fun _ => true) true 24 v0 d0 p0)
    (o1 : Value.okWide Tryd.prog W .any base 38 v1) (h1 : DataW.Trod enc Tryd.prog W 0 (fun _ => true) true 38 v1 d1 p1)
    (o2 : Value.okWide Tryd.prog W .any base 3 v2) (h2 : DataW.Trod enc Tryd.prog W 0 (fun _ => true) true 3 v2 d2 p2)
    (o3 : Value.okWide Tryd.prog W .any base 3 v3) (h3 : DataW.Trod enc Tryd.prog W 0 (fun _ => true) true 3 v3 d3 p3) :
    Calls Tryd.prog 5 #[v0, v1, v2, v3] W fun e w' => e = .returned (.bool true) ∧ Below W.heap.size W w' := by
  obtain ⟨s, f, a, n, c, xs, rfl, hs, hf, hpc, hh⟩ := open_Zone0 o0 h0
  obtain ⟨a3, n3, c3, rfl⟩ := okWide_slice Tryd.underlying38 o1
  obtain ⟨fuel, hf3⟩ := h1
  obtain ⟨b3, m3, k3, zs, e, _, _, g3⟩ := open_Rules (by simpa [Value.cells] using hf3)
  injection e with e1 e2 e3
  subst e1 e2 e3
  obtain ⟨x, rfl, rfl, rfl, wx⟩ := open_int Tryd.underlying3 o2 h2
  obtain ⟨y, rfl, rfl, rfl, wy⟩ := open_int Tryd.underlying3 o3 h3
  exact core W s f a n c xs _ _ _ zs x y hs hf.1 hf.2 hpc hh g3
end Go.Proofs.YtjpbkkoflaajcabDoor.forecastExtendsLaw
