/- PageLays: the Go text returns true at every input, and writes nothing that was there. -/
import Derived.Test.YthpiiocncdpimaaDoorRows
import Derived.Test.YthpiiocncdpimaaDoorPlyL
import Derived.Test.YthpiiocncdpimaaDoorPlyS
import Derived.Test.YthpiiocncdpimaaDoorPly9
import Derived.Test.YthpiiocncdpimaaDoorPage7
import Derived.Test.YthpiiocncdpimaaDoorQuiet
namespace Go.Proofs.YthpiiocncdpimaaDoor.pageLaysLaw
set_option linter.unusedVariables false
set_option linter.unusedSimpArgs false
set_option maxRecDepth 100000
open Go.RowKit Go.ChangeShapes Go.WideShapes Go.Shelf

set_option maxHeartbeats 16000000 in
theorem core (w : World) (a1 a2 : Option Addr) (n1 c1 n2 c2 : Nat) (hd : List ByteArray) (rs : List (List ByteArray)) (width height : Int) (hw1 : -9223372036854775808 ≤ width) (hw2 : width ≤ 9223372036854775807) (hh1 : -9223372036854775808 ≤ height) (hh2 : height ≤ 9223372036854775807)
    (hT : Lib.Utf8Tabs 0 1 w) (hP : Pow w) (k1 : n1 ≤ c1) (m1 : c1 ≤ 9223372036854775807) (k2 : n2 ≤ c2) (m2 : c2 ≤ 9223372036854775807)
    (h1 : Strs w w.heap.size a1 n1 hd) (h2 : RowsAt w w.heap.size a2 n2 rs) (ha2 : a2 = none → n2 = 0 ∧ c2 = 0) :
    Calls Tryd.prog 3 #[.agg #[.slice a1 n1 c1, .slice a2 n2 c2], .int .i64 width, .int .i64 height] w fun e w' => e = .returned (.bool true) ∧ Below w.heap.size w w' := by
  have HT := Lib.hid hT; have HP := Lib.hid hP; have H1 := Lib.hid h1; have H2 := Lib.hid h2; have HA := Lib.hid ha2
  have HT0 := Lib.hid (show TB w (.cells #[.slice a1 n1 c1, .slice a2 n2 c2] 25) (w.alloc (.cells #[.slice a1 n1 c1, .slice a2 n2 c2] 25)) from ⟨below_new (Below.refl w.heap.size w) _, At.new w _⟩)
  have CI1 := Lib.hid (fun W => ref_In width 20 200 W)
  have CI2 := Lib.hid (fun W => ref_In height 4 100 W)
  obtain ⟨i1, hi1⟩ : ∃ x, x = inB 20 200 width := ⟨_, rfl⟩
  obtain ⟨i2, hi2⟩ : ∃ x, x = inB 4 100 height := ⟨_, rfl⟩
  rw [← hi1] at CI1
  rw [← hi2] at CI2
  obtain ⟨E, hE⟩ : ∃ E, E = tblErr 7 hd rs := ⟨_, rfl⟩
  obtain ⟨R, hR⟩ : ∃ R, R = layR hd rs width height := ⟨_, rfl⟩
  obtain ⟨L, ee⟩ := R
  have HE := Lib.hid hE; have HR := Lib.hid hR; have HI1 := Lib.hid hi1; have HI2 := Lib.hid hi2
  clear hT hP h1 h2 ha2 hE hR hi1 hi2
  go_enter Tryd.func3, Tryd.ntmps3
  go_wp2_with fail
  generalize World.alloc w _ = W0 at HT0 ⊢
  refine (law_two W0).mono ?_
  rintro e w1 ⟨b1, b2, rfl, s1, s2, hb⟩
  have HT1 := Lib.hid (HT0.out.then_ hb)
  have S1 := Lib.hid s1; have S2 := Lib.hid s2
  clear hb s1 s2 HT0
  go_wp2_with fail
  refine (page_Lay w1 (some ⟨b1, 0, none⟩) (some ⟨b2, 0, none⟩) 2 2 1 1 twoH [twoR] 20 4 (by omega) (by omega) (by omega) (by omega) (Utf8Tabs_below HT.out HT1.out.1) (HP.out.below HT1.out.1) (by omega) (by omega) (by omega) (by omega) S1.out S2.out (fun h => by cases h)).mono ?_
  rw [twoLit]
  rintro e w2 ⟨la, lc, rfl, hl1, hl2, hl3, hb⟩
  have HT2 := Lib.hid (HT1.out.then_ hb)
  have SL := Lib.hid hl3
  clear HT1 hb S1 S2 hl3
  go_wp2_with fail
  have AL := At.new w2 (.cells #[.string ⟨#[97, 32, 32, 98, 10, 45, 32, 32, 45, 45, 10, 49, 32, 32, 50, 50, 10, 112, 97, 103, 101, 32, 49, 32, 111, 102, 32, 49, 10]⟩] 9)
  have B3 : Below w2.heap.size w2 (w2.alloc (.cells #[.string ⟨#[97, 32, 32, 98, 10, 45, 32, 32, 45, 45, 10, 49, 32, 32, 50, 50, 10, 112, 97, 103, 101, 32, 49, 32, 111, 102, 32, 49, 10]⟩] 9)) := below_new (Below.refl w2.heap.size w2) _
  generalize World.alloc w2 _ = W3 at AL B3 ⊢
  have HT3 := Lib.hid (HT2.out.then_ B3)
  have SA : Strs W3 W3.heap.size la 1 (txts [twoT]) := (SL.out.below B3 (Nat.le_refl _)).of_le B3.size
  have SB : Strs W3 W3.heap.size (some ⟨w2.heap.size, 0, none⟩) 1 (txts [twoT]) := ⟨rfl, by omega, (fun s hs => by
    have : s = ⟨twoT.toArray⟩ := by simpa [txts] using hs
    subst this; decide), fun _ => ⟨_, _, rfl, AL.lt, fun i hi => by
    obtain rfl : i = 0 := by omega
    exact AL.cell 0⟩⟩
  have SAH := Lib.hid SA; have SBH := Lib.hid SB
  clear AL B3 HT2 SL SA SB
  refine (ref_SameTexts W3 W3.heap.size la (some ⟨w2.heap.size, 0, none⟩) 1 lc 1 (txts [twoT]) (Nat.le_refl _) SAH.out SBH.out).mono ?_
  rintro e w4 ⟨rfl, hb⟩
  have HT4 := Lib.hid (HT3.out.then_ hb)
  clear HT3 hb SAH SBH
  have y0 := HT4.out.2.cell 0; have y1 := HT4.out.2.cell 1; have y2 := HT4.out.2.lt
  simp at y0 y1
  go_wp2_with fail
  refine (page_Lay w4 a1 a2 n1 c1 n2 c2 hd rs width height hw1 hw2 hh1 hh2 (Utf8Tabs_below HT.out HT4.out.1) (HP.out.below HT4.out.1) k1 m1 k2 m2 ((H1.out.below HT4.out.1 (Nat.le_refl _)).of_le HT4.out.1.size) ((H2.out.below HT4.out.1 (Nat.le_refl _)).of_le HT4.out.1.size) HA.out).mono ?_
  rw [← HR.out]
  rintro e w5 ⟨aL, cL, rfl, q1, q2, q3, hb⟩
  have HT5 := Lib.hid (HT4.out.then_ hb)
  have SL := Lib.hid q3
  clear HT4 hb q3 y0 y1 y2
  have y0 := HT5.out.2.cell 0; have y1 := HT5.out.2.cell 1; have y2 := HT5.out.2.lt
  simp at y0 y1
  go_wp2_with fail
  refine (ref_PageTableError w5 a1 a2 n1 c1 n2 c2 hd rs (Utf8Tabs_below HT.out HT5.out.1) k1 m1 k2 m2 ((H1.out.below HT5.out.1 (Nat.le_refl _)).of_le HT5.out.1.size) ((H2.out.below HT5.out.1 (Nat.le_refl _)).of_le HT5.out.1.size)).mono ?_
  rw [← HE.out]
  rintro e w6 ⟨rfl, hb⟩
  have HT6 := Lib.hid (HT5.out.then_ hb)
  have SL6 := Lib.hid ((SL.out.below hb (Nat.le_refl _)).of_le hb.size)
  clear HT5 hb y0 y1 y2 SL
  by_cases hE : E = 0
  · subst hE
    have TOK := Lib.hid (tok_of HE.out.symm)
    by_cases g1 : 20 ≤ width ∧ width ≤ 200
    · have hi1 : i1 = true := by rw [HI1.out]; exact inB_yes g1.1 g1.2
      by_cases g2 : 4 ≤ height ∧ height ≤ 100
      · have hi2 : i2 = true := by rw [HI2.out]; exact inB_yes g2.1 g2.2
        obtain ⟨wd, hwd⟩ : ∃ wd : Nat, width = (wd : Int) := ⟨width.toNat, by omega⟩
        obtain ⟨h, hh⟩ : ∃ h : Nat, height = (h : Int) + 3 := ⟨(height - 3).toNat, by omega⟩
        subst hwd hh hi1 hi2
        have hw20 : 20 ≤ wd := by omega
        have hw200 : wd ≤ 200 := by omega
        have hh1' : 1 ≤ h := by omega
        have hh97 : h ≤ 97 := by omega
        have HR2 := Lib.hid (show (L, ee) = if fitB (wdsO hd.length (hd :: rs)) wd = true then (layO hd rs wd h, 0) else ([], 2) by
          rw [HR.out]; unfold layR
          rw [if_neg (by rw [← HE.out]; simp), if_neg (by omega), show ((wd : Int)).toNat = wd by omega, show ((h : Int) + 3 - 3).toNat = h by omega])
        clear HR HE HI1 HI2 g1 g2
        go_wp2_with fail
        refine (CI1.out _).mono ?_
        rintro e w' ⟨rfl, rfl⟩
        go_wp2_with fail
        refine (CI2.out _).mono ?_
        rintro e w' ⟨rfl, rfl⟩
        have y0 := HT6.out.2.cell 0; have y1 := HT6.out.2.cell 1; have y2 := HT6.out.2.lt
        simp at y0 y1
        go_wp2_with fail
        refine (ref_PageLay w6 a1 a2 n1 c1 n2 c2 hd rs wd h hw20 hw200 hh1' hh97 (HP.out.below HT6.out.1) k1 m1 k2 m2 ((H1.out.below HT6.out.1 (Nat.le_refl _)).of_le HT6.out.1.size) ((H2.out.below HT6.out.1 (Nat.le_refl _)).of_le HT6.out.1.size) HA.out TOK.out).mono ?_
        rintro e w7 ⟨hres, hb⟩
        have HT7 := Lib.hid (HT6.out.then_ hb)
        have SL7 := Lib.hid ((SL6.out.below hb (Nat.le_refl _)).of_le hb.size)
        clear HT6 hb y0 y1 y2 SL6
        by_cases hf : fitB (wdsO hd.length (hd :: rs)) wd = true
        · have e2 := HR2.out
          rw [if_pos hf] at hres e2
          obtain ⟨aR, cR, rfl, p1, p2, p3⟩ := hres
          injection e2 with eL e3
          rw [← eL] at p1 p3 ⊢
          subst e3
          obtain ⟨N, hN⟩ : ∃ N, N = L.length := ⟨_, rfl⟩
          have SR := Lib.hid p3
          rw [← hN] at SR p1 q1 SL7 ⊢
          clear eL p3 hf HR2 hN
          go_wp2_with fail
          refine (ref_SameTexts w7 w7.heap.size aL aR N cL cR (txts L) (Nat.le_refl _) SL7.out SR.out).mono ?_
          rintro e w8 ⟨rfl, hb⟩
          have HT8 := Lib.hid (HT7.out.then_ hb)
          clear HT7 hb
          go_wp2_with fail
          go_ret
          exact ⟨rfl, HT8.out.1⟩
        · have e2 := HR2.out
          rw [if_neg hf] at hres e2
          subst hres
          injection e2 with eL e3
          subst eL e3
          clear hf HR2
          go_wp2_with fail
          go_ret
          exact ⟨rfl, HT7.out.1⟩
      · have hi2 : i2 = false := by rw [HI2.out]; exact inB_no g2
        have e2 : (L, ee) = ([], 3) := by
          rw [HR.out]; unfold layR
          rw [if_neg (by rw [← HE.out]; simp), if_pos (by omega)]
        injection e2 with eL e3
        subst hi1 hi2 eL e3
        clear HR HE HI1 HI2 g1 g2
        go_wp2_with fail
        refine (CI1.out _).mono ?_
        rintro e w' ⟨rfl, rfl⟩
        go_wp2_with fail
        refine (CI2.out _).mono ?_
        rintro e w' ⟨rfl, rfl⟩
        go_wp2_with fail
        go_ret
        exact ⟨rfl, HT6.out.1⟩
    · have hi1 : i1 = false := by rw [HI1.out]; exact inB_no g1
      have e2 : (L, ee) = ([], 3) := by
        rw [HR.out]; unfold layR
        rw [if_neg (by rw [← HE.out]; simp), if_pos (by omega)]
      injection e2 with eL e3
      subst hi1 eL e3
      clear HR HE HI1 HI2 g1
      go_wp2_with fail
      refine (CI1.out _).mono ?_
      rintro e w' ⟨rfl, rfl⟩
      go_wp2_with fail
      go_ret
      exact ⟨rfl, HT6.out.1⟩
  · have e2 : (L, ee) = ([], E) := by
      rw [HR.out]; unfold layR
      rw [if_pos (by rw [← HE.out]; exact hE), ← HE.out]
    injection e2 with eL e3
    subst eL e3
    clear HR HE
    go_wp2_with fail
    go_ret
    exact ⟨by simp, HT6.out.1⟩
theorem walk {H : Type} {enc : TypeId × Value → H} {v0 v1 v2 : Value} {d0 d1 d2 : DataW H} {p0 p1 p2 : List MemPlace} {base : Nat} (W : World)
    (o0 : Value.okWide Tryd.prog W .any base 25 v0) (h0 : DataW.Trod enc Tryd.prog W 0 (fun _ => true) true 25 v0 d0 p0)
    (o1 : Value.okWide Tryd.prog W .any base 3 v1) (h1 : DataW.Trod enc Tryd.prog W 0 (fun _ => true) true 3 v1 d1 p1)
    (o2 : Value.okWide Tryd.prog W .any base 3 v2) (h2 : DataW.Trod enc Tryd.prog W 0 (fun _ => true) true 3 v2 d2 p2) (hL : laidMet Tryd.prog Rows.pageLaysRow.laid W) :
    Calls Tryd.prog 3 #[v0, v1, v2] W fun e w' => e = .returned (.bool true) ∧ Below W.heap.size W w' := by
  obtain ⟨a1, c1, a2, c2, hd, rs, rfl, k1, m1, k2, m2, r1, r2, r3⟩ := open_Table o0 h0
  obtain ⟨x1, rfl, rfl, rfl, hx1⟩ := open_int Tryd.underlying3 o1 h1
  obtain ⟨x2, rfl, rfl, rfl, hx2⟩ := open_int Tryd.underlying3 o2 h2
  have hx1 := bounds_i64 hx1
  have hx2 := bounds_i64 hx2
  exact core W a1 a2 _ c1 _ c2 hd rs x1 x2 hx1.1 hx1.2 hx2.1 hx2.2 (laid_utf8 hL) (laid_pows hL) k1 m1 k2 m2 r1 r2 r3
end Go.Proofs.YthpiiocncdpimaaDoor.pageLaysLaw
