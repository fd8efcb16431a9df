/- ZoneChecks: the Go text returns true at every input, and writes nothing that was there. -/
import Derived.Test.YtjekdceicjnamabDoorZoneBase
namespace Go.Proofs.YtjekdceicjnamabDoor.zoneChecksLaw
set_option linter.unusedVariables false
set_option maxRecDepth 100000
open Go.RowKit Go.ChangeShapes Go.WideShapes

theorem lit0 : zoneErr ⟨#[98, 97, 115, 101]⟩ 3600000 baseChg = 0 := by decide +kernel
theorem lit3 : zoneErr ⟨#[98, 97, 115, 101]⟩ 1 baseChg = 3 := by decide +kernel
set_option maxHeartbeats 2000000 in
theorem core (w : World) (s : ByteArray) (f : Int) (a : Option Addr) (n c : Nat) (xs : List Chg) (hs : s.size ≤ 9223372036854775807) (f1 : -9223372036854775808 ≤ f) (f2 : f ≤ 9223372036854775807) (h : Changes w w.heap.size a n xs) :
    Calls Tryd.prog 3 #[.agg #[.string s, .int .i64 f, .slice a n c]] w fun e w' => e = .returned (.bool true) ∧ Below w.heap.size w w' := by
  have H := Lib.hid h; clear h
  go_enter Tryd.func3, Tryd.ntmps3
  go_wp2_with fail
  refine (law_base _).mono ?_
  rintro e w1 ⟨ab, rfl, hcb, hb⟩
  have o0 := (One.new w (.cells #[.string s, .int .i64 f, .slice a n c] 24)).step hb
  have HCB := Lib.hid hcb
  clear hb hcb
  have hl0 := o0.1.lt
  go_wp2_with fail
  have o1 := o0.alloc (.cells #[.string ⟨#[98, 97, 115, 101]⟩, .int .i64 1, .slice ab 1 1] 24)
  have ad := At.new w1 (.cells #[.string ⟨#[98, 97, 115, 101]⟩, .int .i64 1, .slice ab 1 1] 24)
  have HC1 := Lib.hid (HCB.out.then_ (below_new (Below.refl _ _) (.cells #[.string ⟨#[98, 97, 115, 101]⟩, .int .i64 1, .slice ab 1 1] 24)))
  clear HCB o0
  generalize World.alloc w1 _ = W2 at o1 ad HC1 ⊢
  refine (law_base _).mono ?_
  rintro e w3 ⟨ab2, rfl, hcb, hb⟩
  replace o1 := o1.step hb
  replace ad := ad.then_ hb
  have HC2 := Lib.hid hcb
  have HC3 := Lib.hid (HC1.out.then_ hb)
  clear hb hcb HC1
  go_wp2_with fail
  refine (zone_Check _ _ _ _ _ _ baseChg (by decide) (by omega) (by omega) HC2.out).mono ?_
  rw [lit0]
  rintro e w4 ⟨rfl, hb⟩
  replace o1 := o1.step hb
  replace ad := ad.then_ hb
  have HC4 := Lib.hid (HC3.out.then_ hb)
  clear hb HC2 HC3
  have d0 : w4.cell? ⟨w1.heap.size, 0, none⟩ = some (.string ⟨#[98, 97, 115, 101]⟩) := ad.cell 0
  have d1 : w4.cell? ⟨w1.heap.size, 1, none⟩ = some (.int .i64 1) := ad.cell 1
  have d2 : w4.cell? ⟨w1.heap.size, 2, none⟩ = some (.slice ab 1 1) := ad.cell 2
  go_wp2_with fail
  refine (zone_Check _ _ _ _ _ _ baseChg (by decide) (by omega) (by omega) HC4.out).mono ?_
  rw [lit3]
  rintro e w5 ⟨rfl, hb⟩
  replace o1 := o1.step hb
  clear hb HC4 d0 d1 d2 ad
  go_wp2_with fail
  obtain ⟨E, hE⟩ : ∃ E, E = zoneErr s f xs := ⟨_, rfl⟩
  have HE := Lib.hid hE; clear hE
  (refine region_class (One w (.cells #[.string s, .int .i64 f, .slice a n c] 24)) (by kernel_rfl) (by kernel_rfl) (o1.drew) ?_; repeat ((first | (refine class_take ?_ (by rfl) ?_ ?_; rotate_left; focus (intro wq hq; ((obtain ⟨x0, x1, x2⟩ := hq.cells3)); go_simp; first | done | with_reducible rfl | (first | (go_at_call 7; refine (zone_Check _ _ _ _ _ _ xs hs f1 f2 (H.out.then_ hq.2)).mono ?_; rw [← HE.out]; rintro e w' ⟨rfl, hb⟩; refine ⟨?_, hq.step hb⟩; with_reducible rfl) | (go_at_call 8; refine (ref_ZoneError _ _ _ _ _ _ xs hs f1 f2 (H.out.then_ hq.2)).mono ?_; rw [← HE.out]; rintro e w' ⟨rfl, hb⟩; refine ⟨?_, hq.step hb⟩; with_reducible rfl)))) | refine class_skip (by rfl) ?_); try simp only [Act.put, List.setIfInBounds_toArray, List.set_cons_zero, List.set_cons_succ]))
  refine wpQuiet_nil ?_
  intro W6 o6
  go_wp2_with fail
  go_ret
  exact ⟨by simp, o6.2⟩
theorem walk {H : Type} {enc : TypeId × Value → H} {v0 : Value} {d0 : DataW H} {p0 : List MemPlace} {base : Nat} (W : World)
    (o0 : Value.okWide Tryd.prog W .any base 24 v0) (h0 : DataW.Trod enc Tryd.prog W 0 (fun _ => true) true 24 v0 d0 p0) :
    Calls Tryd.prog 3 #[v0] W fun e w' => e = .returned (.bool true) ∧ Below W.heap.size W w' := by
  obtain ⟨s, f, a, n, c, xs, rfl, hs, hf, k1, k2, h1⟩ := open_Zone o0 h0
  exact core W s f a n c xs hs hf.1 hf.2 h1
end Go.Proofs.YtjekdceicjnamabDoor.zoneChecksLaw
