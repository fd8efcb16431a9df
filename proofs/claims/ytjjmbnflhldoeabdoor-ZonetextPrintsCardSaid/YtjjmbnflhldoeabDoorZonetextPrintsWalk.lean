/- ZonetextPrints: the Go text returns true at every input, and writes nothing that was there. -/
import Derived.Test.YtjjmbnflhldoeabDoorRows
import Derived.Test.YtjjmbnflhldoeabDoorPrt2
import Derived.Test.YtjjmbnflhldoeabDoorZoneBase
import Derived.Test.YtjjmbnflhldoeabDoorLaid
namespace Go.Proofs.YtjjmbnflhldoeabDoor.zonetextPrintsLaw
set_option linter.unusedVariables false
set_option maxRecDepth 100000
open Go.RowKit Go.ChangeShapes Go.WideShapes Go.Shelf Num

theorem lit0 : zoneErr ⟨#[98, 97, 115, 101]⟩ 3600000 baseChg = 0 := by decide +kernel
theorem itoa0 : itoaS 0 = ⟨#[48]⟩ := by
  have : Lib.itoa 0 = [48] := by unfold Lib.itoa; rw [if_neg (by decide)]; show Lib.decDigits 0 = _; exact dd_zero
  unfold itoaS; rw [this]
theorem litS : zoneS ⟨#[98, 97, 115, 101]⟩ 3600000 baseChg = ⟨#[122, 111, 110, 101, 32, 98, 97, 115, 101, 32, 43, 48, 49, 58, 48, 48, 58, 48, 48, 10, 97, 116, 32, 48, 32, 48, 32, 43, 48, 50, 58, 48, 48, 58, 48, 48, 32, 83, 85, 77, 10]⟩ := by
  unfold zoneS zoneL baseChg chgS
  simp only [List.length_cons, List.length_nil, List.take_succ_cons, List.take_zero, List.flatMap_cons, List.flatMap_nil, List.take_nil]
  rw [show (0 : Int) / 86400000 = 0 from rfl, show (0 : Int) % 86400000 = 0 from rfl, itoa0]
  decide +kernel
theorem litP : printOut ⟨#[98, 97, 115, 101]⟩ 3600000 baseChg = .tuple #[.string ⟨#[122, 111, 110, 101, 32, 98, 97, 115, 101, 32, 43, 48, 49, 58, 48, 48, 58, 48, 48, 10, 97, 116, 32, 48, 32, 48, 32, 43, 48, 50, 58, 48, 48, 58, 48, 48, 32, 83, 85, 77, 10]⟩, .int .i64 0] := by
  unfold printOut; rw [if_pos lit0, litS]
set_option maxHeartbeats 4000000 in
theorem core (w : World) (s : ByteArray) (f : Int) (a : Option Addr) (n c : Nat) (xs : List Chg) (hs : s.size ≤ 9223372036854775807) (f1 : -9223372036854775808 ≤ f) (f2 : f ≤ 9223372036854775807) (h : Changes w w.heap.size a n xs) (ht : Pow w) :
    Calls Tryd.prog 5 #[.agg #[.string s, .int .i64 f, .slice a n c]] w fun e w' => e = .returned (.bool true) ∧ Below w.heap.size w w' := by
  have H := Lib.hid h; clear h
  have HT := Lib.hid ht; clear ht
  go_enter Tryd.func5, Tryd.ntmps5
  go_wp2_with fail
  refine (law_base _).mono ?_
  rintro e w1 ⟨ab, rfl, hcb, hb⟩
  have o1 := (One.new w (.cells #[.string s, .int .i64 f, .slice a n c] 45)).step hb
  have HCB := Lib.hid hcb
  have O1 := Lib.hid o1; clear hb hcb o1
  go_wp2_with fail
  refine (zt_Print _ _ _ _ _ _ baseChg (by decide) (by omega) (by omega) HCB.out (HT.out.below O1.out.2)).mono ?_
  rw [litP]
  rintro e w2 ⟨rfl, hb⟩
  have o2 := O1.out.step hb
  obtain ⟨x0, x1, x2⟩ := o2.cells3
  have O2 := Lib.hid o2; clear hb o2 O1 HCB
  go_wp2_with fail
  refine (zt_Print _ _ _ _ _ _ xs hs f1 f2 (H.out.then_ O2.out.2) (HT.out.below O2.out.2)).mono ?_
  by_cases hz : zoneErr s f xs = 0
  · rw [show printOut s f xs = .tuple #[.string (zoneS s f xs), .int .i64 0] by unfold printOut; rw [if_pos hz]]
    rintro e w3 ⟨rfl, hb⟩
    have o3 := O2.out.step hb
    clear x0 x1 x2
    obtain ⟨x0, x1, x2⟩ := o3.cells3
    have O3 := Lib.hid o3; clear hb o3 O2
    have HZ := Lib.hid hz; clear hz
    go_wp2_with fail
    refine (ref_ZoneError _ _ _ _ _ _ xs hs f1 f2 (H.out.then_ O3.out.2)).mono ?_
    rw [HZ.out]
    rintro e w4 ⟨rfl, hb⟩
    have o4 := O3.out.step hb
    clear x0 x1 x2
    obtain ⟨x0, x1, x2⟩ := o4.cells3
    have O4 := Lib.hid o4; clear hb o4 O3
    go_wp2_with fail
    refine (ref_ZoneText _ s f a n c xs (H.out.then_ O4.out.2) (HT.out.below O4.out.2) HZ.out).mono ?_
    rintro e w5 ⟨rfl, hb⟩
    have O5 := Lib.hid (O4.out.step hb); clear hb O4 x0 x1 x2
    go_wp2_with fail
    go_ret
    exact ⟨ret_bool (by simp), O5.out.2⟩
  · rw [show printOut s f xs = .tuple #[.string ⟨#[]⟩, .int .i64 (zoneErr s f xs)] by unfold printOut; rw [if_neg hz]]
    have hz' : (zoneErr s f xs != 0) = true := by simpa using hz
    obtain ⟨E, hE⟩ : ∃ E, E = zoneErr s f xs := ⟨_, rfl⟩
    rw [← hE] at hz' ⊢
    have HE := Lib.hid hE; clear hE hz
    rintro e w3 ⟨rfl, hb⟩
    have o3 := O2.out.step hb
    clear x0 x1 x2
    obtain ⟨x0, x1, x2⟩ := o3.cells3
    have O3 := Lib.hid o3; clear hb o3 O2
    go_wp2_with fail
    refine (ref_ZoneError _ _ _ _ _ _ xs hs f1 f2 (H.out.then_ O3.out.2)).mono ?_
    rw [← HE.out]
    rintro e w4 ⟨rfl, hb⟩
    have O4 := Lib.hid (O3.out.step hb); clear hb O3 x0 x1 x2
    go_wp2_with fail
    go_ret
    exact ⟨ret_bool (by simp), O4.out.2⟩
theorem walk {H : Type} {enc : TypeId × Value → H} {v0 : Value} {d0 : DataW H} {p0 : List MemPlace} {base : Nat} (W : World)
    (o0 : Value.okWide Tryd.prog W .any base 45 v0) (h0 : DataW.Trod enc Tryd.prog W 0 (fun _ => true) true 45 v0 d0 p0) (hL : laidMet Tryd.prog Rows.zonetextPrintsRow.laid W) :
    Calls Tryd.prog 5 #[v0] W fun e w' => e = .returned (.bool true) ∧ Below W.heap.size W w' := by
  obtain ⟨s, f, a, n, c, xs, rfl, hs, hf, k1, k2, h1⟩ := open_Zone o0 h0
  exact core W s f a n c xs hs hf.1 hf.2 h1 (laid_pow pow_data.symm hL.tail.tail)
end Go.Proofs.YtjjmbnflhldoeabDoor.zonetextPrintsLaw
