/- ZoneOffsets: the Go text returns true at every input, and writes nothing that was there. -/
import Derived.Test.YtjekdceicjnamabDoorZone4
namespace Go.Proofs.YtjekdceicjnamabDoor.zoneOffsetsLaw
set_option linter.unusedVariables false
set_option maxRecDepth 100000
open Go.RowKit Go.ChangeShapes Go.WideShapes

theorem lit0 : zchk ⟨#[98, 97, 115, 101]⟩ 3600000 baseChg (-1) = 0 := by decide +kernel
theorem lit1 : offTo (-1) (3600000, noText) baseChg = (3600000, ⟨#[]⟩) := by
  unfold baseChg; rw [offTo_cons, if_pos (by omega)]; rfl
theorem zcase {s : ByteArray} {f : Int} {xs : List Chg} {t E : Int} (hE : E = zchk s f xs t) (q : E ≠ 0) : (zoneErr s f xs = E) ∨ (zoneErr s f xs = 0 ∧ instB t = false ∧ E = 3) := by
  unfold zchk at hE
  by_cases h1 : zoneErr s f xs = 0
  · right
    rw [if_neg (by simpa using h1)] at hE
    by_cases h2 : instB t = true
    · rw [if_pos h2] at hE; exact absurd hE q
    · rw [if_neg h2] at hE; exact ⟨h1, by simpa using h2, hE⟩
  · left; rw [if_pos h1] at hE; exact hE.symm
theorem zgood {s : ByteArray} {f : Int} {xs : List Chg} {t : Int} (q : zchk s f xs t = 0) : zoneErr s f xs = 0 ∧ instB t = true := by
  unfold zchk at q
  by_cases h1 : zoneErr s f xs = 0
  · rw [if_neg (by simpa using h1)] at q
    by_cases h2 : instB t = true
    · exact ⟨h1, h2⟩
    · rw [if_neg h2] at q; omega
  · rw [if_pos h1] at q; exact absurd q h1
/-- The zone's box, a change's box, and all that was there. -/
def Both (w : World) (oz : Obj) (B : Nat) (ob : Obj) (W : World) : Prop := One w oz W ∧ At W B ob
theorem Both.step {w W W' : World} {oz ob : Obj} {B : Nat} (h : Both w oz B ob W) (hb : Below W.heap.size W W') : Both w oz B ob W' := ⟨h.1.step hb, h.2.then_ hb⟩
theorem Both.alloc {w W : World} {oz ob : Obj} {B : Nat} (h : Both w oz B ob W) (o : Obj) : Both w oz B ob (W.alloc o) := ⟨h.1.alloc o, h.2.alloc o⟩
set_option maxHeartbeats 4000000 in
theorem core (w : World) (s : ByteArray) (f : Int) (a : Option Addr) (n c : Nat) (xs : List Chg) (t : Int) (hs : s.size ≤ 9223372036854775807) (f1 : -9223372036854775808 ≤ f) (f2 : f ≤ 9223372036854775807) (t1 : -9223372036854775808 ≤ t) (t2 : t ≤ 9223372036854775807) (h : Changes w w.heap.size a n xs) :
    Calls Tryd.prog 5 #[.agg #[.string s, .int .i64 f, .slice a n c], .int .i64 t] w fun e w' => e = .returned (.bool true) ∧ Below w.heap.size w w' := by
  have L1 := Lib.hid h.len
  have m1 := h.max
  have H := Lib.hid h; clear h
  go_enter Tryd.func5, Tryd.ntmps5
  go_wp2_with fail
  refine (law_base _).mono ?_
  rintro e w1 ⟨ab, rfl, hcb, hb⟩
  have o0 := (One.new w (.cells #[.string s, .int .i64 f, .slice a n c] 24)).step hb
  have HCB := Lib.hid hcb
  clear hb hcb
  go_wp2_with fail
  refine (zone_Offset_ok _ _ _ _ _ _ baseChg (-1) (by decide) (by omega) (by omega) (by omega) (by omega) HCB.out lit0).mono ?_
  rw [lit1]
  rintro e w2 ⟨rfl, hb⟩
  replace o0 := o0.step hb
  clear hb HCB
  obtain ⟨x0, x1, x2⟩ := o0.cells3
  go_wp2_with fail
  by_cases q : zchk s f xs t = 0
  case neg =>
    refine (zone_Offset_err _ _ _ _ _ _ xs t hs f1 f2 t1 t2 (H.out.then_ o0.2) q).mono ?_
    obtain ⟨E, hE⟩ : ∃ E, E = zchk s f xs t := ⟨_, rfl⟩
    rw [← hE]
    have hE0 : E ≠ 0 := by rw [hE]; exact q
    have HC := Lib.hid (zcase hE hE0)
    have HE := Lib.hid hE; have HQ := Lib.hid q
    clear q hE
    rintro e w3 ⟨rfl, hb⟩
    replace o0 := o0.step hb
    clear hb x0 x1 x2
    obtain ⟨x0, x1, x2⟩ := o0.cells3
    go_wp2_with fail
    refine (zone_Next_err _ _ _ _ _ _ xs t hs f1 f2 t1 t2 (H.out.then_ o0.2) HQ.out).mono ?_
    rw [← HE.out]
    rintro e w4 ⟨rfl, hb⟩
    replace o0 := o0.step hb
    clear hb x0 x1 x2
    obtain ⟨x0, x1, x2⟩ := o0.cells3
    have hl4 := o0.1.lt
    go_wp2_with fail
    have bo : Both w (.cells #[.string s, .int .i64 f, .slice a n c] 24) w4.heap.size (.cells #[.int .i64 0, .int .i64 0, .string ⟨#[]⟩] 39) (w4.alloc (.cells #[.int .i64 0, .int .i64 0, .string ⟨#[]⟩] 39)) := ⟨o0.alloc _, At.new w4 _⟩
    generalize World.alloc w4 _ = W5 at bo ⊢
    clear x0 x1 x2
    refine (ref_ZoneError _ _ _ _ _ _ xs hs f1 f2 (H.out.then_ bo.1.2)).mono ?_
    rcases HC.out with hz | ⟨hz, hi, hE3⟩
    · rw [hz]
      have q' : (E != 0) = true := by simpa using hE0
      have q2 : (E == 0) = false := by simpa using hE0
      clear hz hE0
      rintro e w5 ⟨rfl, hb⟩
      replace bo := bo.step hb
      have y0 : w5.cell? ⟨w4.heap.size, 0, none⟩ = some (.int .i64 0) := bo.2.cell 0
      have y1 : w5.cell? ⟨w4.heap.size, 1, none⟩ = some (.int .i64 0) := bo.2.cell 1
      have y2 : w5.cell? ⟨w4.heap.size, 2, none⟩ = some (.string ⟨#[]⟩) := bo.2.cell 2
      go_wp2_with fail
      go_ret
      exact ⟨by simp, bo.1.2⟩
    · rw [hz]
      subst hE3
      clear hz hE0
      rintro e w5 ⟨rfl, hb⟩
      replace bo := bo.step hb
      have y0 : w5.cell? ⟨w4.heap.size, 0, none⟩ = some (.int .i64 0) := bo.2.cell 0
      have y1 : w5.cell? ⟨w4.heap.size, 1, none⟩ = some (.int .i64 0) := bo.2.cell 1
      have y2 : w5.cell? ⟨w4.heap.size, 2, none⟩ = some (.string ⟨#[]⟩) := bo.2.cell 2
      go_wp2_with fail
      refine (ref_InstantB _ _ t1 t2).mono ?_; rw [hi]; rintro e w6 ⟨rfl, rfl⟩
      go_wp2_with fail
      go_ret
      exact ⟨by simp, bo.1.2⟩
  obtain ⟨hz, hi⟩ := zgood q
  have ok := zoneOk_of hz
  have hsame := off_same t xs (f, noText) ok.order
  obtain ⟨⟨o, l⟩, ho⟩ : ∃ p, offTo t (f, noText) xs = p := ⟨_, rfl⟩
  have HO2 := Lib.hid (show offAll t (f, noText) xs = (o, l) by rw [← hsame]; exact ho)
  have HO1 := Lib.hid ho
  have HZ := Lib.hid hz; have HQ := Lib.hid q
  clear hsame ok hz ho q
  refine (zone_Offset_ok _ _ _ _ _ _ xs t hs f1 f2 t1 t2 (H.out.then_ o0.2) HQ.out).mono ?_
  rw [HO1.out]
  rintro e w3 ⟨rfl, hb⟩
  replace o0 := o0.step hb
  clear hb x0 x1 x2
  obtain ⟨x0, x1, x2⟩ := o0.cells3
  go_wp2_with fail
  refine (zone_Next_ok _ _ _ _ _ _ xs t hs f1 f2 t1 t2 (H.out.then_ o0.2) HQ.out).mono ?_
  obtain ⟨c0, c1, c2, g, hnx, hcg⟩ : ∃ (c0 c1 : Int) (c2 : ByteArray) (g : Int), nextOut t xs = .tuple #[.agg #[.int .i64 c0, .int .i64 c1, .string c2], .int .i64 g] ∧ ((nextTo t xs = some (c0, c1, c2) ∧ g = 0) ∨ (nextTo t xs = none ∧ c0 = 0 ∧ c1 = 0 ∧ c2 = ⟨#[]⟩ ∧ g = 6)) := by
    unfold nextOut
    cases nextTo t xs with
    | none => exact ⟨0, 0, ⟨#[]⟩, 6, rfl, .inr ⟨rfl, rfl, rfl, rfl, rfl⟩⟩
    | some x => exact ⟨x.1, x.2.1, x.2.2, 0, rfl, .inl ⟨rfl, rfl⟩⟩
  rw [hnx]
  have HCG := Lib.hid hcg
  clear hnx hcg
  rintro e w4 ⟨rfl, hb⟩
  replace o0 := o0.step hb
  clear hb x0 x1 x2
  obtain ⟨x0, x1, x2⟩ := o0.cells3
  have hl4 := o0.1.lt
  go_wp2_with fail
  have bo : Both w (.cells #[.string s, .int .i64 f, .slice a n c] 24) w4.heap.size (.cells #[.int .i64 c0, .int .i64 c1, .string c2] 39) (w4.alloc (.cells #[.int .i64 c0, .int .i64 c1, .string c2] 39)) := ⟨o0.alloc _, At.new w4 _⟩
  generalize World.alloc w4 _ = W5 at bo ⊢
  generalize w4.heap.size = B at *
  clear x0 x1 x2 o0
  refine (ref_ZoneError _ _ _ _ _ _ xs hs f1 f2 (H.out.then_ bo.1.2)).mono ?_
  rw [HZ.out]
  rintro e w5 ⟨rfl, hb⟩
  replace bo := bo.step hb
  clear hb
  obtain ⟨x0, x1, x2⟩ := bo.1.cells3
  go_wp2_with fail
  refine (ref_InstantB _ _ t1 t2).mono ?_; rw [hi]; rintro e w6 ⟨rfl, rfl⟩
  go_wp2_with fail
  refine (ref_OffsetAt _ _ _ _ _ _ xs t (H.out.then_ bo.1.2)).mono ?_
  rw [HO2.out]
  rintro e w7 ⟨rfl, hb⟩
  replace bo := bo.step hb
  clear hb x0 x1 x2
  obtain ⟨x0, x1, x2⟩ := bo.1.cells3
  go_wp2_with fail
  clear x0 x1 x2
  go_loopw [17, 100] (fun _ i wr => ∃ k : Nat, k ≤ n ∧ i = .int .i64 k ∧ nextTo t (xs.drop k) = nextTo t xs ∧ Both w (.cells #[.string s, .int .i64 f, .slice a n c] 24) B (.cells #[.int .i64 c0, .int .i64 c1, .string c2] 39) wr) (fun _ i _ => n - (intOf i).toNat)
  case atStart => exact ⟨0, by omega, rfl, rfl, bo⟩
  case round =>
    clear bo
    obtain ⟨k, hk, rfl, hall, bo⟩ := hrel
    have HA := Lib.hid hall; clear hall
    have y0 : wr.cell? ⟨B, 0, none⟩ = some (.int .i64 c0) := bo.2.cell 0
    have y1 : wr.cell? ⟨B, 1, none⟩ = some (.int .i64 c1) := bo.2.cell 1
    have y2 : wr.cell? ⟨B, 2, none⟩ = some (.string c2) := bo.2.cell 2
    have hlB := bo.2.lt
    by_cases hlt : k < n
    · obtain ⟨b, off, rfl, hbB, hcs⟩ := (H.out.below bo.1.2 (Nat.le_refl _)).open_ (by omega)
      obtain ⟨a1, o1, l1, hc0, hc1, hc2, hx, u1, u2, o1', o2', hls⟩ := hcs k hlt
      have hst := Lib.hid ((congrArg (nextTo t) (drop_row hx)).symm.trans HA.out)
      clear hcs hx
      have hz := bo.1.2.size
      have hbz : b < wr.heap.size := by omega
      by_cases hc : t < a1
      · have hsome : nextTo t xs = some (a1, o1, l1) := by rw [← hst.out, nextTo_cons, if_pos hc]
        have hcc : c0 = a1 ∧ c1 = o1 ∧ c2 = l1 ∧ g = 0 := by
          rcases HCG.out with ⟨h1, h2⟩ | ⟨h1, _⟩
          · rw [hsome] at h1; injection h1 with h1; injection h1 with p1 p2; injection p2 with p2 p3; exact ⟨p1.symm, p2.symm, p3.symm, h2⟩
          · rw [hsome] at h1; cases h1
        obtain ⟨rfl, rfl, rfl, rfl⟩ := hcc
        clear hsome HCG
        go_wp2_with fail
        go_ret
        exact ⟨by simp, (bo.1.alloc _).2⟩
      · have HF := Lib.hid (show nextTo t (xs.drop (k + 1)) = nextTo t xs by rw [← hst.out, nextTo_cons, if_neg hc])
        clear y0 y1 y2
        go_wp2_with fail
        go_roundw
        case rel => exact ⟨k + 1, by omega, by go_num, HF.out, bo.alloc _⟩
        case measure => simp [intOf]; omega
    · have hnone : nextTo t xs = none := by rw [← HA.out, List.drop_eq_nil_of_le (by have := L1.out; omega), nextTo]
      have hcc : c0 = 0 ∧ c1 = 0 ∧ c2 = ⟨#[]⟩ ∧ g = 6 := by
        rcases HCG.out with ⟨h1, h2⟩ | ⟨_, h1⟩
        · rw [hnone] at h1; cases h1
        · exact h1
      obtain ⟨rfl, rfl, rfl, rfl⟩ := hcc
      clear hnone HCG
      go_wp2_with fail
      go_ret
      exact ⟨by simp, bo.1.2⟩
theorem walk {H : Type} {enc : TypeId × Value → H} {v0 v1 : Value} {d0 d1 : DataW H} {p0 p1 : List MemPlace} {base : Nat} (W : World)
    (o0 : Value.okWide Tryd.prog W .any base 24 v0) (h0 : DataW.Trod enc Tryd.prog W 0 (fun _ => true) true 24 v0 d0 p0)
    (o1 : Value.okWide Tryd.prog W .any base 3 v1) (h1 : DataW.Trod enc Tryd.prog W 0 (fun _ => true) true 3 v1 d1 p1) :
    Calls Tryd.prog 5 #[v0, v1] W fun e w' => e = .returned (.bool true) ∧ Below W.heap.size W w' := by
  obtain ⟨s, f, a, n, c, xs, rfl, hs, hf, k1, k2, hh⟩ := open_Zone o0 h0
  obtain ⟨x, rfl, rfl, rfl, wx⟩ := open_int Tryd.underlying3 o1 h1
  have hx := bounds_i64 wx
  exact core W s f a n c xs x hs hf.1 hf.2 hx.1 hx.2 hh
end Go.Proofs.YtjekdceicjnamabDoor.zoneOffsetsLaw
