/- ZonetextApplies: the Go text returns true at every input, and writes nothing that was there. -/
import Derived.Test.YticflmepmmdnfaaDoorZed5
import Derived.Test.YticflmepmmdnfaaDoorZedO
import Derived.Test.YticflmepmmdnfaaDoorZoneBase
namespace Go.Proofs.YticflmepmmdnfaaDoor.zonetextAppliesLaw
set_option linter.unusedVariables false
set_option maxRecDepth 100000
open Go.RowKit Go.ChangeShapes Go.WideShapes Go.Deep

def oneE : List Edt := [(1, 0, 7200000, ⟨#[83, 85, 77]⟩)]
theorem lit_e : apErr ⟨#[98, 97, 115, 101]⟩ 3600000 baseChg oneE = 0 := by decide +kernel
theorem lit_r : apOut ⟨#[98, 97, 115, 101]⟩ 3600000 baseChg oneE 0 = (⟨#[98, 97, 115, 101]⟩, 3600000, []) := by decide +kernel
theorem zone_field (W : World) (s : ByteArray) (f : Int) (b o : Nat) : (Instr.field 24 (.agg #[.string s, .int .i64 f, .slice (some ⟨b, o, none⟩) 1 1]) 2).run Tryd.prog W = .ok (.slice (some ⟨b, o, none⟩) 1 1) W := by kernel_rfl
theorem edit_at {w : World} {b : Nat} {t : TypeId} (h : At w b (.cells #[.int .i64 1, .int .i64 0, .int .i64 7200000, .string ⟨#[83, 85, 77]⟩] t)) : Edits w w.heap.size (some ⟨b, 0, none⟩) 1 oneE := by
  refine ⟨⟨rfl, by omega, fun _ => ⟨b, 0, rfl, h.lt, fun i x hx j v hv => ?_⟩⟩, fun x hx => ?_⟩
  · match i, hx with
    | 0, hx =>
      simp [oneE] at hx; subst hx
      match j, hv with
      | 0, hv => simp [encEdt] at hv; subst hv; exact h.cell 0
      | 1, hv => simp [encEdt] at hv; subst hv; exact h.cell 1
      | 2, hv => simp [encEdt] at hv; subst hv; exact h.cell 2
      | 3, hv => simp [encEdt] at hv; subst hv; exact h.cell 3
  · simp [oneE] at hx
    subst hx
    exact ⟨⟨by decide, by decide⟩, ⟨by decide, by decide⟩, ⟨by decide, by decide⟩, by decide⟩
set_option maxHeartbeats 8000000 in
theorem core (w : World) (s : ByteArray) (f : Int) (p : Option Addr) (n c : Nat) (ms : List Chg) (pe : Option Addr) (m cm : Nat) (es : List Edt) (hs : s.size ≤ 9223372036854775807) (f1 : -9223372036854775808 ≤ f) (f2 : f ≤ 9223372036854775807) (hpc : p = none → n = 0 ∧ c = 0) (h1 : Changes w w.heap.size p n ms) (h2 : Edits w w.heap.size pe m es) :
    Calls Tryd.prog 4 #[.agg #[.string s, .int .i64 f, .slice p n c], .slice pe m cm] w fun e w' => e = .returned (.bool true) ∧ Below w.heap.size w w' := by
  have HPC := Lib.hid hpc
  have H1 := Lib.hid h1; have H2 := Lib.hid h2; clear h1 h2 hpc
  go_enter Tryd.func4, Tryd.ntmps4
  go_wp2_with fail
  refine (law_base _).mono ?_
  rintro e w1 ⟨ab, rfl, hbz, hb⟩
  have o0 := (One.new w (.cells #[.string s, .int .i64 f, .slice p n c] 24)).step hb
  obtain ⟨bb, bo, rfl, hbb, hcs⟩ := hbz.open_ (by omega)
  obtain ⟨z0, z1, z2, c0, c1, c2, hx, _⟩ := hcs 0 (by omega)
  simp only [baseChg, List.getElem?_cons_zero, Option.some.injEq, Prod.mk.injEq] at hx
  obtain ⟨rfl, rfl, rfl⟩ := hx
  simp only [Nat.zero_mul, Nat.add_zero] at c0 c1 c2
  clear hb hcs hbz
  have zf := fun W => zone_field W ⟨#[98, 97, 115, 101]⟩ 3600000 bb bo
  go_wp2_with fail
  clear zf
  have o1 := o0.alloc (.cells #[.int .i64 1, .int .i64 0, .int .i64 7200000, .string ⟨#[83, 85, 77]⟩] 33)
  have ae := At.new w1 (.cells #[.int .i64 1, .int .i64 0, .int .i64 7200000, .string ⟨#[83, 85, 77]⟩] 33)
  clear o0 c0 c1 c2
  generalize World.alloc w1 _ = W2 at o1 ae ⊢
  refine (law_base _).mono ?_
  rintro e w3 ⟨a2, rfl, hbz, hb⟩
  have o2 := o1.step hb
  have ae2 := ae.then_ hb
  clear o1 ae hb
  go_wp2_with fail
  have HP1 := zonetext_Apply w3 ⟨#[98, 97, 115, 101]⟩ 3600000 a2 1 1 baseChg (some ⟨w1.heap.size, 0, none⟩) 1 1 oneE (by decide) (by omega) (by omega) hbz (edit_at ae2)
  rw [lit_e, lit_r] at HP1
  refine HP1.mono ?_
  rintro e w4 ⟨p1, q1, r1, rfl, hch, hb⟩
  obtain rfl : q1 = 0 := hch.len.symm
  have o3 := o2.step hb
  clear o2 ae2 hbz hb HP1 hch
  simp only
  go_upto_region 3 with fail
  have o4 := o3.alloc (.cells #[.string ⟨#[98, 97, 115, 101]⟩, .int .i64 3600000, .slice p1 0 r1] 24)
  have a1 := At.new w4 (.cells #[.string ⟨#[98, 97, 115, 101]⟩, .int .i64 3600000, .slice p1 0 r1] 24)
  clear o3
  generalize World.alloc w4 _ = W5 at o4 a1 ⊢
  have x0 : W5.cell? ⟨w.heap.size, 0, none⟩ = some (.string s) := o4.1.cell 0
  have x1 : W5.cell? ⟨w.heap.size, 1, none⟩ = some (.int .i64 f) := o4.1.cell 1
  have x2 : W5.cell? ⟨w.heap.size, 2, none⟩ = some (.slice p n c) := o4.1.cell 2
  have y0 : W5.cell? ⟨w4.heap.size, 0, none⟩ = some (.string ⟨#[98, 97, 115, 101]⟩) := a1.cell 0
  have y2 : W5.cell? ⟨w4.heap.size, 2, none⟩ = some (.slice p1 0 r1) := a1.cell 2
  go_wp2_with fail
  clear a1 x0 x1 x2 y0 y2
  have HP2 := zonetext_Apply W5 s f p n c ms pe m cm es hs f1 f2 (H1.out.then_ o4.2) (H2.out.then_ o4.2)
  obtain ⟨E, hE⟩ : ∃ E, E = apErr s f ms es := ⟨_, rfl⟩
  rw [← hE] at HP2
  obtain ⟨⟨S, F, LL⟩, hK⟩ : ∃ r, r = apOut s f ms es E := ⟨_, rfl⟩
  have HE := Lib.hid hE; have HK := Lib.hid hK
  rw [← hK] at HP2
  clear hE hK
  refine HP2.mono ?_
  rintro e w6 ⟨p2, q2, r2, rfl, hM, hb⟩
  simp only at hM
  have o5 := o4.step hb
  have HM := Lib.hid hM
  clear hM hb HP2 o4
  simp only
  go_upto_region 6 with fail
  have o6 := o5.alloc (.cells #[.string S, .int .i64 F, .slice p2 q2 r2] 24)
  have ax := At.new w6 (.cells #[.string S, .int .i64 F, .slice p2 q2 r2] 24)
  have b6 := below_new (Below.refl w6.heap.size w6) (.cells #[.string S, .int .i64 F, .slice p2 q2 r2] 24)
  clear o5
  generalize World.alloc w6 _ = W7 at o6 ax b6 ⊢
  have x0 : W7.cell? ⟨w.heap.size, 0, none⟩ = some (.string s) := o6.1.cell 0
  have x1 : W7.cell? ⟨w.heap.size, 1, none⟩ = some (.int .i64 f) := o6.1.cell 1
  have x2 : W7.cell? ⟨w.heap.size, 2, none⟩ = some (.slice p n c) := o6.1.cell 2
  go_wp2_with fail
  refine (ref_ZoneError _ s f p n c ms hs f1 f2 (H1.out.then_ o6.2)).mono ?_
  clear x0 x1 x2
  have hbad : E ≠ 0 → S = ⟨#[]⟩ ∧ F = 0 ∧ LL = [] := fun h => by
    have k := HK.out
    rw [apOut, if_pos h] at k
    injection k with k1 k2
    injection k2 with k2 k3
    exact ⟨k1, k2, k3⟩
  have HBAD := Lib.hid hbad; clear hbad
  by_cases q : zoneErr s f ms = 0
  case neg =>
    have hz : E = zoneErr s f ms := by rw [HE.out, apErr, if_pos q]
    rw [← hz]
    have Q := Lib.hid (show E ≠ 0 by rw [hz]; exact q)
    obtain ⟨rfl, rfl, rfl⟩ := HBAD.out Q.out
    obtain rfl : q2 = 0 := HM.out.len.symm
    have q' : (E != 0) = true := by simpa using Q.out
    clear q hz HE HK HBAD
    rintro e w8 ⟨rfl, hb⟩
    replace o6 := o6.step hb
    replace ax := ax.then_ hb
    replace b6 := below_then b6 hb
    clear hb
    have y0 : w8.cell? ⟨w6.heap.size, 0, none⟩ = some (.string ⟨#[]⟩) := ax.cell 0
    have y1 : w8.cell? ⟨w6.heap.size, 1, none⟩ = some (.int .i64 0) := ax.cell 1
    have y2 : w8.cell? ⟨w6.heap.size, 2, none⟩ = some (.slice p2 0 r2) := ax.cell 2
    go_wp2_with fail
    refine (ref_SameZone _ ⟨#[]⟩ 0 p2 none 0 r2 0 [] (HM.out.then_ b6) (changes_none _ _)).mono ?_
    rintro e W9 ⟨rfl, hb⟩
    go_wp2_with fail
    go_ret
    exact ⟨by simp, below_then o6.2 hb⟩
  rw [q]
  have Q0 := Lib.hid q; clear q
  rintro e w8 ⟨rfl, hb⟩
  replace o6 := o6.step hb
  replace ax := ax.then_ hb
  replace b6 := below_then b6 hb
  clear hb
  have x0 : w8.cell? ⟨w.heap.size, 0, none⟩ = some (.string s) := o6.1.cell 0
  have x1 : w8.cell? ⟨w.heap.size, 1, none⟩ = some (.int .i64 f) := o6.1.cell 1
  have x2 : w8.cell? ⟨w.heap.size, 2, none⟩ = some (.slice p n c) := o6.1.cell 2
  go_wp2_with fail
  have HP3 := ref_ZoneApply w8 s f p n c ms pe m cm es hs f1 f2 HPC.out (H1.out.then_ o6.2) (H2.out.then_ o6.2) Q0.out
  rw [← HE.out, ← HK.out] at HP3
  refine HP3.mono ?_
  rintro e w9 ⟨p3, q3, r3, rfl, hM3, hb⟩
  simp only at hM3
  obtain rfl : q2 = q3 := by rw [← HM.out.len]; exact hM3.len
  replace o6 := o6.step hb
  replace ax := ax.then_ hb
  replace b6 := below_then b6 hb
  have HM3 := Lib.hid hM3
  clear hb hM3 HP3 x0 x1 x2
  simp only
  go_upto_region 10 with fail
  have o7 := o6.alloc (.cells #[.string S, .int .i64 F, .slice p3 q2 r3] 24)
  have ay := ax.alloc (.cells #[.string S, .int .i64 F, .slice p3 q2 r3] 24)
  have az := At.new w9 (.cells #[.string S, .int .i64 F, .slice p3 q2 r3] 24)
  have b9 := below_new (Below.refl w9.heap.size w9) (.cells #[.string S, .int .i64 F, .slice p3 q2 r3] 24)
  clear o6 ax
  generalize World.alloc w9 _ = W10 at o7 ay az b9 ⊢
  have y0 : W10.cell? ⟨w6.heap.size, 0, none⟩ = some (.string S) := ay.cell 0
  have y1 : W10.cell? ⟨w6.heap.size, 1, none⟩ = some (.int .i64 F) := ay.cell 1
  have y2 : W10.cell? ⟨w6.heap.size, 2, none⟩ = some (.slice p2 q2 r2) := ay.cell 2
  have v0 : W10.cell? ⟨w9.heap.size, 0, none⟩ = some (.string S) := az.cell 0
  have v1 : W10.cell? ⟨w9.heap.size, 1, none⟩ = some (.int .i64 F) := az.cell 1
  have v2 : W10.cell? ⟨w9.heap.size, 2, none⟩ = some (.slice p3 q2 r3) := az.cell 2
  go_wp2_with fail
  refine (ref_SameZone _ S F p2 p3 q2 r2 r3 LL (HM.out.then_ (below_then b6 b9)) (HM3.out.then_ b9)).mono ?_
  rintro e W11 ⟨rfl, hb⟩
  go_wp2_with fail
  go_ret
  exact ⟨by simp, below_then o7.2 hb⟩

theorem walk {H : Type} {enc : TypeId × Value → H} {v0 v1 : Value} {d0 d1 : DataW H} {p0 p1 : List MemPlace} {base : Nat} (W : World)
    (o0 : Value.okWide Tryd.prog W .any base 24 v0) (h0 : DataW.Trod enc Tryd.prog W 0 (fun _ => true) true 24 v0 d0 p0)
    (o1 : Value.okWide Tryd.prog W .any base 25 v1) (h1 : DataW.Trod enc Tryd.prog W 0 (fun _ => true) true 25 v1 d1 p1) :
    Calls Tryd.prog 4 #[v0, v1] W fun e w' => e = .returned (.bool true) ∧ Below W.heap.size W w' := by
  obtain ⟨s, f, a, n, c, xs, rfl, hs, hf, hpc, hh⟩ := open_Zone0Z o0 h0
  obtain ⟨a3, n3, c3, rfl⟩ := okWide_slice Tryd.underlying25 o1
  obtain ⟨fuel, hf3⟩ := h1
  obtain ⟨b3, m3, k3, es, e, g3⟩ := open_Edits (by simpa [Value.cells] using hf3)
  injection e with e1 e2 e3
  subst e1 e2 e3
  exact core W s f a n c xs _ _ _ es hs hf.1 hf.2 hpc hh g3
end Go.Proofs.YticflmepmmdnfaaDoor.zonetextAppliesLaw
