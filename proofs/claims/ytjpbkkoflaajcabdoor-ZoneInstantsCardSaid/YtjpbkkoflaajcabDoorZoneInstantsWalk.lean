/- ZoneInstants: the Go text returns true at every input, and writes nothing that was there. -/
import Derived.Test.YtjpbkkoflaajcabDoorZone8
import Derived.Test.YtjpbkkoflaajcabDoorZone9
import Derived.Test.YtjpbkkoflaajcabDoorCycle2
namespace Go.Proofs.YtjpbkkoflaajcabDoor.zoneInstantsLaw
set_option linter.unusedVariables false
set_option maxRecDepth 100000
open Go.RowKit Go.ChangeShapes Go.WideShapes

theorem lit1 : oneOut (instErr ⟨#[98, 97, 115, 101]⟩ 3600000 baseChg 0 5400000) (instList ⟨#[98, 97, 115, 101]⟩ 3600000 baseChg 0 5400000) = (0, 15) := by decide +kernel
theorem then2 {w w' : World} {a : Option Addr} {n : Nat} {xs : List Int} (h : Ints w w.heap.size a n xs) (hb : Below w.heap.size w w') : Ints w' w'.heap.size a n xs := (h.below hb (Nat.le_refl _)).more hb.size
theorem instErr_bad {s : ByteArray} {f : Int} {xs : List Chg} {day ms E : Int} (h : E = instErr s f xs day ms) (h0 : E ≠ 0) :
    zoneErr s f xs = E ∨ (zoneErr s f xs = 0 ∧ inB (-4000000) 4000000 day = false ∧ E = 3) ∨ (zoneErr s f xs = 0 ∧ inB (-4000000) 4000000 day = true ∧ inB 0 86399999 ms = false ∧ E = 1) := by
  unfold instErr at h
  by_cases q1 : zoneErr s f xs ≠ 0
  · rw [if_pos q1] at h; exact .inl h.symm
  · rw [if_neg q1] at h
    rcases Bool.eq_false_or_eq_true (inB (-4000000) 4000000 day) with q2 | q2
    · rw [if_neg (by rw [q2]; simp)] at h
      rcases Bool.eq_false_or_eq_true (inB 0 86399999 ms) with q3 | q3
      · rw [if_neg (by rw [q3]; simp)] at h; exact absurd h h0
      · rw [if_pos q3] at h; exact .inr (.inr ⟨by omega, q2, q3, h⟩)
    · rw [if_pos q2] at h; exact .inr (.inl ⟨by omega, q2, h⟩)
theorem instErr_good {s : ByteArray} {f : Int} {xs : List Chg} {day ms : Int} (h : 0 = instErr s f xs day ms) : zoneErr s f xs = 0 ∧ inB (-4000000) 4000000 day = true ∧ inB 0 86399999 ms = true := by
  unfold instErr at h
  by_cases q1 : zoneErr s f xs ≠ 0
  · rw [if_pos q1] at h; omega
  · rw [if_neg q1] at h
    rcases Bool.eq_false_or_eq_true (inB (-4000000) 4000000 day) with q2 | q2
    · rw [if_neg (by rw [q2]; simp)] at h
      rcases Bool.eq_false_or_eq_true (inB 0 86399999 ms) with q3 | q3
      · exact ⟨by omega, q2, q3⟩
      · rw [if_pos q3] at h; omega
    · rw [if_pos q2] at h; omega
set_option maxHeartbeats 4000000 in
theorem core (w : World) (s : ByteArray) (f : Int) (a : Option Addr) (n c : Nat) (xs : List Chg) (day ms : Int) (hs : s.size ≤ 9223372036854775807) (f1 : -9223372036854775808 ≤ f) (f2 : f ≤ 9223372036854775807) (h : Changes w w.heap.size a n xs) :
    Calls Tryd.prog 3 #[.agg #[.string s, .int .i64 f, .slice a n c], .int .i64 day, .int .i64 ms] w fun e w' => e = .returned (.bool true) ∧ Below w.heap.size w w' := by
  have H := Lib.hid h; clear h
  go_enter Tryd.func3, Tryd.ntmps3
  go_wp2_with fail
  refine (law_base _).mono ?_
  rintro e w1 ⟨ab, rfl, hcb, hb⟩
  have o0 := (One.new w (.cells #[.string s, .int .i64 f, .slice a n c] 24)).step hb
  have HCB := Lib.hid hcb
  clear hb hcb
  go_wp2_with fail
  refine (zone_One _ _ _ _ _ _ baseChg 0 5400000 (by decide) (by omega) (by omega) HCB.out).mono ?_
  rw [lit1]
  rintro e w2 ⟨rfl, hb⟩
  replace o0 := o0.step hb
  clear hb HCB
  obtain ⟨x0, x1, x2⟩ := o0.cells3
  go_wp2_with fail
  refine (zone_Instants _ _ _ _ _ _ xs day ms hs f1 f2 (H.out.then_ o0.2)).mono ?_
  obtain ⟨E, hE⟩ : ∃ E, E = instErr s f xs day ms := ⟨_, rfl⟩
  obtain ⟨L, hL⟩ : ∃ L, L = instList s f xs day ms := ⟨_, rfl⟩
  have HE := Lib.hid hE; have HL := Lib.hid hL; clear hE hL
  rintro e w3 ⟨la, ln, lc, rfl, hc1, hc2, hI, hb⟩
  rw [← HE.out]; rw [← HL.out] at hI
  replace o0 := o0.step hb
  have HI := Lib.hid hI; have HLN := Lib.hid hI.len
  clear hb hI x0 x1 x2
  obtain ⟨x0, x1, x2⟩ := o0.cells3
  go_wp2_with fail
  refine (zone_One _ _ _ _ _ _ xs day ms hs f1 f2 (H.out.then_ o0.2)).mono ?_
  rw [← HE.out, ← HL.out]
  obtain ⟨⟨r1, r2⟩, hr⟩ : ∃ r, r = oneOut E L := ⟨_, rfl⟩
  rw [← hr]
  have HR := Lib.hid hr; clear hr
  rintro e w4 ⟨rfl, hb⟩
  have b3 := hb
  replace o0 := o0.step hb
  clear hb x0 x1 x2
  obtain ⟨x0, x1, x2⟩ := o0.cells3
  go_wp2_with fail
  refine (ref_ZoneError _ _ _ _ _ _ xs hs f1 f2 (H.out.then_ o0.2)).mono ?_
  by_cases q : E = 0
  case neg =>
    have hr := HR.out
    rw [show oneOut E L = (0, E) from if_pos q] at hr
    injection hr with hr1 hr2
    subst hr1 hr2
    obtain rfl : L = [] := by rw [HL.out, instList, if_pos (by rw [← HE.out]; exact q)]
    obtain rfl : ln = 0 := by have := HLN.out; simpa using this.symm
    clear HR HI HL HLN b3 x0 x1 x2
    rcases instErr_bad HE.out q with hz | ⟨hz, hd, hE3⟩ | ⟨hz, hd, hm, hE1⟩
    · rw [hz]
      have q' : (r2 != 0) = true := by simpa using q
      clear hz HE q
      rintro e w5 ⟨rfl, hb⟩
      replace o0 := o0.step hb
      clear hb
      go_wp2_with fail
      go_ret
      exact ⟨by simp, o0.2⟩
    · rw [hz]
      subst hE3
      clear hz HE q
      rintro e w5 ⟨rfl, hb⟩
      replace o0 := o0.step hb
      clear hb
      go_wp2_with fail
      refine (ref_Day _ _).mono ?_; rw [hd]; rintro e w6 ⟨rfl, rfl⟩
      go_wp2_with fail
      go_ret
      exact ⟨by simp, o0.2⟩
    · rw [hz]
      subst hE1
      clear hz HE q
      rintro e w5 ⟨rfl, hb⟩
      replace o0 := o0.step hb
      clear hb
      go_wp2_with fail
      refine (ref_Day _ _).mono ?_; rw [hd]; rintro e w6 ⟨rfl, rfl⟩
      go_wp2_with fail
      refine (ref_In _ _ _ _).mono ?_; rw [hm]; rintro e w7 ⟨rfl, rfl⟩
      go_wp2_with fail
      go_ret
      exact ⟨by simp, o0.2⟩
  subst q
  obtain ⟨hz, hd, hm⟩ := instErr_good HE.out
  have ok := zoneOk_of hz
  have hsame := inst_same (day * 86400000 + ms) f xs ok.order
  have hLL : L = instGo (day * 86400000 + ms) none f xs := by rw [HL.out, instList, if_neg (by rw [← HE.out]; omega)]
  have HSAME := Lib.hid (hsame.trans hLL.symm)
  have OK := Lib.hid ok
  obtain ⟨d1, d2⟩ := inB_iff.1 hd
  obtain ⟨e1, e2⟩ := inB_iff.1 hm
  rw [hz]
  clear hz ok hsame hLL HL HE
  rintro e w5 ⟨rfl, hb⟩
  replace o0 := o0.step hb
  replace b3 := below_then b3 hb
  clear hb x0 x1 x2
  obtain ⟨x0, x1, x2⟩ := o0.cells3
  go_wp2_with fail
  refine (ref_Day _ _).mono ?_; rw [hd]; rintro e w6 ⟨rfl, rfl⟩
  go_wp2_with fail
  refine (ref_In _ _ _ _).mono ?_; rw [hm]; rintro e w7 ⟨rfl, rfl⟩
  clear hd hm
  go_wp2_with fail
  refine (ref_LocalInstants _ _ _ _ _ _ xs day ms OK.out d1 d2 e1 e2 (H.out.then_ o0.2)).mono ?_
  rintro e w8 ⟨ma, mn, mc, rfl, hm1, hm2, hJ, hb⟩
  rw [HSAME.out] at hJ
  replace o0 := o0.step hb
  replace b3 := below_then b3 hb
  have HJ := Lib.hid hJ; have HJN := Lib.hid hJ.len
  clear hb hJ x0 x1 x2
  go_wp2_with fail
  refine (ref_SameInts _ la ma ln lc mn mc L L (then2 HI.out b3) HJ.out).mono ?_
  rw [show (L == L) = true by simp]
  rintro e w9 ⟨rfl, ⟨nd, rfl⟩⟩
  replace o0 := o0.drewN nd
  have HJ2 := Lib.hid (show Ints (w8.drewN nd) w8.heap.size ma mn L from HJ.out)
  by_cases hn0 : mn = 0
  · subst hn0
    have hr := HR.out
    rw [show oneOut 0 L = (0, 15) from (if_neg (by simp)).trans (if_pos HJN.out)] at hr
    injection hr with hr1 hr2
    subst hr1 hr2
    go_wp2_with fail
    go_ret
    exact ⟨by simp, o0.2⟩
  have hz : ((mn : Int) == 0) = false := by simp; omega
  by_cases hn1 : mn = 1
  · subst hn1
    obtain ⟨b, off, x, rfl, hbB, hc, hx, _⟩ := HJ2.out.at_ (show 0 < 1 by omega)
    simp only [Nat.add_zero] at hc
    have hr := HR.out
    rw [show oneOut 0 L = (x, 0) by
      refine (if_neg (by simp)).trans ((if_neg (by rw [HJN.out]; omega)).trans ((if_neg (by rw [HJN.out]; omega)).trans ?_))
      rw [List.getD_eq_getElem?_getD, hx]; rfl] at hr
    injection hr with hr1 hr2
    subst hr1 hr2
    clear hx
    go_wp2_with fail
    go_ret
    exact ⟨by simp, o0.2⟩
  · have hz1 : ((mn : Int) == 1) = false := by simp; omega
    have hr := HR.out
    rw [show oneOut 0 L = (0, 16) from (if_neg (by simp)).trans ((if_neg (by rw [HJN.out]; omega)).trans (if_pos (by rw [HJN.out]; omega)))] at hr
    injection hr with hr1 hr2
    subst hr1 hr2
    go_wp2_with fail
    go_ret
    exact ⟨by simp, o0.2⟩
theorem walk {H : Type} {enc : TypeId × Value → H} {v0 v1 v2 : Value} {d0 d1 d2 : DataW H} {p0 p1 p2 : List MemPlace} {base : Nat} (W : World)
    (o0 : Value.okWide Tryd.prog W .any base 24 v0) (h0 : DataW.Trod enc Tryd.prog W 0 (fun _ => true) true 24 v0 d0 p0)
    (o1 : Value.okWide Tryd.prog W .any base 3 v1) (h1 : DataW.Trod enc Tryd.prog W 0 (fun _ => true) true 3 v1 d1 p1)
    (o2 : Value.okWide Tryd.prog W .any base 3 v2) (h2 : DataW.Trod enc Tryd.prog W 0 (fun _ => true) true 3 v2 d2 p2) :
    Calls Tryd.prog 3 #[v0, v1, v2] W fun e w' => e = .returned (.bool true) ∧ Below W.heap.size W w' := by
  obtain ⟨s, f, a, n, c, xs, rfl, hs, hf, k1, k2, hh⟩ := open_Zone o0 h0
  obtain ⟨x, rfl, rfl, rfl, wx⟩ := open_int Tryd.underlying3 o1 h1
  obtain ⟨y, rfl, rfl, rfl, wy⟩ := open_int Tryd.underlying3 o2 h2
  exact core W s f a n c xs x y hs hf.1 hf.2 hh
end Go.Proofs.YtjpbkkoflaajcabDoor.zoneInstantsLaw
