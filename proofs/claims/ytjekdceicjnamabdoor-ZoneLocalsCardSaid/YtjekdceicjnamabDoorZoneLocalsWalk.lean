/- ZoneLocals: the Go text returns true at every input, and writes nothing that was there. -/
import Derived.Test.YtjekdceicjnamabDoorZone3
namespace Go.Proofs.YtjekdceicjnamabDoor.zoneLocalsLaw
set_option linter.unusedVariables false
set_option maxRecDepth 100000
open Go.RowKit Go.ChangeShapes Go.WideShapes

theorem lit0 : zchk ⟨#[98, 97, 115, 101]⟩ 3600000 baseChg (-1) = 0 := by decide +kernel
theorem lit1 : (offTo (-1) (3600000, noText) baseChg).1 = 3600000 := by decide +kernel
theorem lit2 : splitOut (-1 + 3600000) = .tuple #[.int .i64 0, .int .i64 3599999, .int .i64 0] := by
  unfold splitOut; rw [if_pos (by decide)]; rfl
set_option maxHeartbeats 4000000 in
theorem core (w : World) (s : ByteArray) (f : Int) (a : Option Addr) (n c : Nat) (xs : List Chg) (t : Int) (hs : s.size ≤ 9223372036854775807) (f1 : -9223372036854775808 ≤ f) (f2 : f ≤ 9223372036854775807) (t1 : -9223372036854775808 ≤ t) (t2 : t ≤ 9223372036854775807) (h : Changes w w.heap.size a n xs) :
    Calls Tryd.prog 4 #[.agg #[.string s, .int .i64 f, .slice a n c], .int .i64 t] w fun e w' => e = .returned (.bool true) ∧ Below w.heap.size w w' := by
  have H := Lib.hid h; clear h
  go_enter Tryd.func4, Tryd.ntmps4
  go_wp2_with fail
  refine (law_base _).mono ?_
  rintro e w1 ⟨ab, rfl, hcb, hb⟩
  have o0 := (One.new w (.cells #[.string s, .int .i64 f, .slice a n c] 24)).step hb
  have HCB := Lib.hid hcb
  clear hb hcb
  go_wp2_with fail
  refine (zone_Local_ok _ _ _ _ _ _ baseChg (-1) 0 3599999 0 (by decide) (by omega) (by omega) (by omega) (by omega) HCB.out lit0 3600000 lit1 (by omega) (by omega) lit2).mono ?_
  rintro e w2 ⟨rfl, hb⟩
  replace o0 := o0.step hb
  clear hb HCB
  obtain ⟨x0, x1, x2⟩ := o0.cells3
  go_wp2_with fail
  by_cases q : zchk s f xs t = 0
  case neg =>
    refine (zone_Local_err _ _ _ _ _ _ xs t hs f1 f2 t1 t2 (H.out.then_ o0.2) q).mono ?_
    obtain ⟨E, hE⟩ : ∃ E, E = zchk s f xs t := ⟨_, rfl⟩
    rw [← hE]
    have hE0 : E ≠ 0 := by rw [hE]; exact q
    have hcase : (zoneErr s f xs = E) ∨ (zoneErr s f xs = 0 ∧ instB t = false ∧ E = 3) := by
      rw [hE]; unfold zchk
      by_cases h1 : zoneErr s f xs = 0
      · right
        rw [if_neg (by simpa using h1)]
        by_cases h2 : instB t = true
        · exact absurd (by unfold zchk; rw [if_neg (by simpa using h1), if_pos h2]) q
        · exact ⟨h1, by simpa using h2, if_neg h2⟩
      · left; rw [if_pos h1]
    have HC := Lib.hid hcase
    clear q hE hcase
    rintro e w3 ⟨rfl, hb⟩
    replace o0 := o0.step hb
    clear hb x0 x1 x2
    obtain ⟨x0, x1, x2⟩ := o0.cells3
    go_wp2_with fail
    refine (ref_ZoneError _ _ _ _ _ _ xs hs f1 f2 (H.out.then_ o0.2)).mono ?_
    rcases HC.out with hz | ⟨hz, hi, hE3⟩
    · rw [hz]
      have q' : (E != 0) = true := by simpa using hE0
      have q2 : (E == 0) = false := by simpa using hE0
      clear hz hE0
      rintro e w4 ⟨rfl, hb⟩
      go_wp2_with fail
      go_ret
      exact ⟨by simp, below_then o0.2 hb⟩
    · rw [hz]
      subst hE3
      clear hz hE0
      rintro e w4 ⟨rfl, hb⟩
      go_wp2_with fail
      refine (ref_InstantB _ _ t1 t2).mono ?_; rw [hi]; rintro e w5 ⟨rfl, rfl⟩
      go_wp2_with fail
      go_ret
      exact ⟨by simp, below_then o0.2 hb⟩
  have hz : zoneErr s f xs = 0 ∧ instB t = true := by
    unfold zchk at q
    by_cases h1 : zoneErr s f xs = 0
    · rw [if_neg (by simpa using h1)] at q
      by_cases h2 : instB t = true
      · exact ⟨h1, h2⟩
      · rw [if_neg h2] at q; omega
    · rw [if_pos h1] at q; exact absurd q h1
  obtain ⟨hz, hi⟩ := hz
  have ok := zoneOk_of hz
  obtain ⟨tb1, tb2⟩ := instB_bound hi
  have hsame := off_same t xs (f, noText) ok.order
  obtain ⟨o, ho⟩ : ∃ o, (offTo t (f, noText) xs).1 = o := ⟨_, rfl⟩
  have hob := offB_bound (offTo_in t xs (f, noText) ok.first (fun x hx => (ok.each x hx).2))
  rw [ho] at hob
  obtain ⟨ob1, ob2⟩ := hob
  have HO2 := Lib.hid (show (offAll t (f, noText) xs).1 = o by rw [← hsame]; exact ho)
  have HZ := Lib.hid hz
  clear hsame ok hz
  rcases inB_cases (-4000000) 4000000 ((t + o) / 86400000) with ⟨hd, d1, d2⟩ | ⟨hd, hd'⟩
  · have hsp : splitOut (t + o) = .tuple #[.int .i64 ((t + o) / 86400000), .int .i64 ((t + o) % 86400000), .int .i64 0] := by unfold splitOut; rw [if_pos ⟨d1, d2⟩]
    refine (zone_Local_ok _ _ _ _ _ _ xs t _ _ _ hs f1 f2 (by omega) (by omega) (H.out.then_ o0.2) q o ho ob1 ob2 hsp).mono ?_
    clear q ho hsp
    rintro e w3 ⟨rfl, hb⟩
    replace o0 := o0.step hb
    clear hb x0 x1 x2
    obtain ⟨x0, x1, x2⟩ := o0.cells3
    go_wp2_with fail
    refine (ref_ZoneError _ _ _ _ _ _ xs hs f1 f2 (H.out.then_ o0.2)).mono ?_
    rw [HZ.out]
    rintro e w4 ⟨rfl, hb⟩
    replace o0 := o0.step hb
    clear hb x0 x1 x2
    obtain ⟨x0, x1, x2⟩ := o0.cells3
    go_wp2_with fail
    refine (ref_InstantB _ _ t1 t2).mono ?_; rw [hi]; rintro e w5 ⟨rfl, rfl⟩
    go_wp2_with fail
    refine (ref_OffsetAt _ _ _ _ _ _ xs t (H.out.then_ o0.2)).mono ?_
    rw [HO2.out]
    rintro e w6 ⟨rfl, hb⟩
    replace o0 := o0.step hb
    clear hb x0 x1 x2
    go_wp2_with fail
    refine (ref_InstantB _ _ (by omega) (by omega)).mono ?_; rw [show instB (t + o) = true from hd]; rintro e w7 ⟨rfl, rfl⟩
    go_wp2_with fail
    refine (ref_Floor _ _ _ (by omega) (by omega) (by omega) (by omega)).mono ?_; rintro e w8 ⟨rfl, rfl⟩
    go_wp2_with fail
    refine (ref_Mod _ _ _ (by omega) (by omega) (by omega) (by omega)).mono ?_; rintro e w9 ⟨rfl, rfl⟩
    go_wp2_with fail
    go_ret
    exact ⟨by simp, o0.2⟩
  · have hsp : splitOut (t + o) = .tuple #[.int .i64 0, .int .i64 0, .int .i64 3] := by unfold splitOut; rw [if_neg hd']
    refine (zone_Local_ok _ _ _ _ _ _ xs t _ _ _ hs f1 f2 (by omega) (by omega) (H.out.then_ o0.2) q o ho ob1 ob2 hsp).mono ?_
    clear q ho hsp
    rintro e w3 ⟨rfl, hb⟩
    replace o0 := o0.step hb
    clear hb x0 x1 x2
    obtain ⟨x0, x1, x2⟩ := o0.cells3
    go_wp2_with fail
    refine (ref_ZoneError _ _ _ _ _ _ xs hs f1 f2 (H.out.then_ o0.2)).mono ?_
    rw [HZ.out]
    rintro e w4 ⟨rfl, hb⟩
    replace o0 := o0.step hb
    clear hb x0 x1 x2
    obtain ⟨x0, x1, x2⟩ := o0.cells3
    go_wp2_with fail
    refine (ref_InstantB _ _ t1 t2).mono ?_; rw [hi]; rintro e w5 ⟨rfl, rfl⟩
    go_wp2_with fail
    refine (ref_OffsetAt _ _ _ _ _ _ xs t (H.out.then_ o0.2)).mono ?_
    rw [HO2.out]
    rintro e w6 ⟨rfl, hb⟩
    replace o0 := o0.step hb
    clear hb x0 x1 x2
    go_wp2_with fail
    refine (ref_InstantB _ _ (by omega) (by omega)).mono ?_; rw [show instB (t + o) = false from hd]; rintro e w7 ⟨rfl, rfl⟩
    go_wp2_with fail
    go_ret
    exact ⟨by simp, o0.2⟩
theorem walk {H : Type} {enc : TypeId × Value → H} {v0 v1 : Value} {d0 d1 : DataW H} {p0 p1 : List MemPlace} {base : Nat} (W : World)
    (o0 : Value.okWide Tryd.prog W .any base 24 v0) (h0 : DataW.Trod enc Tryd.prog W 0 (fun _ => true) true 24 v0 d0 p0)
    (o1 : Value.okWide Tryd.prog W .any base 3 v1) (h1 : DataW.Trod enc Tryd.prog W 0 (fun _ => true) true 3 v1 d1 p1) :
    Calls Tryd.prog 4 #[v0, v1] W fun e w' => e = .returned (.bool true) ∧ Below W.heap.size W w' := by
  obtain ⟨s, f, a, n, c, xs, rfl, hs, hf, k1, k2, hh⟩ := open_Zone o0 h0
  obtain ⟨x, rfl, rfl, rfl, wx⟩ := open_int Tryd.underlying3 o1 h1
  have hx := bounds_i64 wx
  exact core W s f a n c xs x hs hf.1 hf.2 hx.1 hx.2 hh
end Go.Proofs.YtjekdceicjnamabDoor.zoneLocalsLaw
