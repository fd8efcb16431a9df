/- Contract of bureau.Text. -/
import Derived.Test.YticflmepmmdnfaaDoorBur1
namespace Go.Proofs.YticflmepmmdnfaaDoor
set_option linter.unusedVariables false
set_option linter.unusedSimpArgs false
set_option maxRecDepth 100000
open Go.RowKit Go.Shelf Num

def burE (s : ByteArray) (f fr : Int) (xs : List Chg) : Int := if zoneErr s f xs = 0 then (if instB fr = false then 3 else if 200 < (burS s fr xs).size then 2 else 0) else zoneErr s f xs
def burX (s : ByteArray) (f fr : Int) (xs : List Chg) : ByteArray := if burE s f fr xs = 0 then burS s fr xs else ⟨#[]⟩
theorem burE_zone {s : ByteArray} {f fr : Int} {xs : List Chg} (h : ¬ zoneErr s f xs = 0) : burE s f fr xs = zoneErr s f xs ∧ burX s f fr xs = ⟨#[]⟩ := by
  have e : burE s f fr xs = zoneErr s f xs := by unfold burE; rw [if_neg h]
  exact ⟨e, by unfold burX; rw [e, if_neg h]⟩
theorem burE_inst {s : ByteArray} {f fr : Int} {xs : List Chg} (h : zoneErr s f xs = 0) (h2 : instB fr = false) : burE s f fr xs = 3 ∧ burX s f fr xs = ⟨#[]⟩ := by
  have e : burE s f fr xs = 3 := by unfold burE; rw [if_pos h, if_pos h2]
  exact ⟨e, by unfold burX; rw [e]; rfl⟩
theorem burE_long {s : ByteArray} {f fr : Int} {xs : List Chg} (h : zoneErr s f xs = 0) (h2 : instB fr = true) (h3 : 200 < (burS s fr xs).size) : burE s f fr xs = 2 ∧ burX s f fr xs = ⟨#[]⟩ := by
  have e : burE s f fr xs = 2 := by unfold burE; rw [if_pos h, if_neg (by rw [h2]; simp), if_pos h3]
  exact ⟨e, by unfold burX; rw [e]; rfl⟩
theorem burE_ok {s : ByteArray} {f fr : Int} {xs : List Chg} (h : zoneErr s f xs = 0) (h2 : instB fr = true) (h3 : ¬ 200 < (burS s fr xs).size) : burE s f fr xs = 0 ∧ burX s f fr xs = burS s fr xs := by
  have e : burE s f fr xs = 0 := by unfold burE; rw [if_pos h, if_neg (by rw [h2]; simp), if_neg h3]
  exact ⟨e, by unfold burX; rw [e]; rfl⟩
def BurText (s : ByteArray) (f fr : Int) (xs : List Chg) (w : World) (e : Ending) (w' : World) : Prop := e = .returned (.tuple #[.string (burX s f fr xs), .int .i64 (burE s f fr xs)]) ∧ Below w.heap.size w w'
set_option maxHeartbeats 4000000 in
theorem bur_Text (w : World) (s : ByteArray) (f fr : Int) (a : Option Addr) (n c : Nat) (xs : List Chg) (hs : s.size ≤ 1048576) (f1 : -9223372036854775808 ≤ f) (f2 : f ≤ 9223372036854775807) (g1 : -9223372036854775808 ≤ fr) (g2 : fr ≤ 9223372036854775807) (hn : n ≤ 1048576) (hx : ∀ x ∈ xs, x.2.2.size ≤ 1048576) (h : Changes w w.heap.size a n xs) (ht : Pow w) :
    Calls Tryd.prog 13 #[.agg #[.string s, .int .i64 f, .slice a n c], .int .i64 fr] w (BurText s f fr xs w) := by
  have H := Lib.hid h; clear h
  have HT := Lib.hid ht; clear ht
  have HX := Lib.hid hx; clear hx
  unfold BurText
  by_cases hz : zoneErr s f xs = 0
  · have CZ := Lib.hid (fun W (hb : Below w.heap.size w W) => by have := zone_Check W s f a n c xs (by omega) f1 f2 (H.out.then_ hb); rw [hz] at this; exact this)
    by_cases hi : instB fr = true
    · have CI := Lib.hid (fun W => by have := line_IsInstant fr W g1 g2; rw [hi] at this; exact this)
      have CS := Lib.hid (fun W (hb : Below w.heap.size w W) => bur_show W s f fr a n c xs hs g1 g2 hn HX.out (H.out.then_ hb) (HT.out.below hb))
      obtain ⟨SS, hSS⟩ : ∃ SS, SS = burS s fr xs := ⟨_, rfl⟩
      rw [← hSS] at CS
      by_cases h3 : 200 < (burS s fr xs).size
      · obtain ⟨e1, e2⟩ := burE_long hz hi h3
        rw [e1, e2]
        rw [← hSS] at h3
        have d3 : (200 : Int) < (SS.size : Int) := by omega
        clear hz hi h3 hSS e1 e2
        go_enter Tryd.func13, Tryd.ntmps13
        go_wp2_with fail
        have o0 := One.new w (.cells #[.string s, .int .i64 f, .slice a n c] 24)
        generalize World.alloc w _ = W0 at o0 ⊢
        refine (CZ.out _ o0.2).mono ?_
        rintro e w1 ⟨rfl, hb⟩
        have O1 := Lib.hid (o0.step hb)
        clear o0 hb
        go_wp2_with fail
        refine (CI.out _).mono ?_
        rintro e w2 ⟨rfl, hb⟩
        have o2 := O1.out.drawn hb
        obtain ⟨x0, x1, x2⟩ := o2.cells3
        have O2 := Lib.hid o2
        clear O1 hb o2
        go_wp2_with fail
        refine (CS.out _ O2.out.2).mono ?_
        rintro e w3 ⟨rfl, hb⟩
        have O3 := Lib.hid (O2.out.step hb)
        clear hb O2 x0 x1 x2
        go_wp2_with fail
        go_ret2
        exact ⟨rfl, O3.out.2⟩
      · obtain ⟨e1, e2⟩ := burE_ok hz hi h3
        rw [e1, e2, ← hSS]
        rw [← hSS] at h3
        have d3 : ¬ (200 : Int) < (SS.size : Int) := by omega
        clear hz hi h3 hSS e1 e2
        go_enter Tryd.func13, Tryd.ntmps13
        go_wp2_with fail
        have o0 := One.new w (.cells #[.string s, .int .i64 f, .slice a n c] 24)
        generalize World.alloc w _ = W0 at o0 ⊢
        refine (CZ.out _ o0.2).mono ?_
        rintro e w1 ⟨rfl, hb⟩
        have O1 := Lib.hid (o0.step hb)
        clear o0 hb
        go_wp2_with fail
        refine (CI.out _).mono ?_
        rintro e w2 ⟨rfl, hb⟩
        have o2 := O1.out.drawn hb
        obtain ⟨x0, x1, x2⟩ := o2.cells3
        have O2 := Lib.hid o2
        clear O1 hb o2
        go_wp2_with fail
        refine (CS.out _ O2.out.2).mono ?_
        rintro e w3 ⟨rfl, hb⟩
        have O3 := Lib.hid (O2.out.step hb)
        clear hb O2 x0 x1 x2
        go_wp2_with fail
        go_ret2
        exact ⟨rfl, O3.out.2⟩
    · have hi' : instB fr = false := by simpa using hi
      have CI := Lib.hid (fun W => by have := line_IsInstant fr W g1 g2; rw [hi'] at this; exact this)
      obtain ⟨e1, e2⟩ := burE_inst hz hi'
      rw [e1, e2]
      clear hz hi hi' e1 e2
      go_enter Tryd.func13, Tryd.ntmps13
      go_wp2_with fail
      have o0 := One.new w (.cells #[.string s, .int .i64 f, .slice a n c] 24)
      generalize World.alloc w _ = W0 at o0 ⊢
      refine (CZ.out _ o0.2).mono ?_
      rintro e w1 ⟨rfl, hb⟩
      have O1 := Lib.hid (o0.step hb)
      clear o0 hb
      go_wp2_with fail
      refine (CI.out _).mono ?_
      rintro e w2 ⟨rfl, hb⟩
      have O2 := Lib.hid (O1.out.drawn hb)
      clear O1 hb
      go_wp2_with fail
      go_ret2
      exact ⟨rfl, O2.out.2⟩
  · obtain ⟨e1, e2⟩ := burE_zone (fr := fr) hz
    rw [e1, e2]
    have hz' : (zoneErr s f xs != 0) = true := by simpa using hz
    have CZ := fun W (hb : Below w.heap.size w W) => zone_Check W s f a n c xs (by omega) f1 f2 (H.out.then_ hb)
    generalize zoneErr s f xs = E at hz' CZ ⊢
    have CZ' := Lib.hid CZ
    clear hz e1 e2 CZ
    go_enter Tryd.func13, Tryd.ntmps13
    go_wp2_with fail
    have o0 := One.new w (.cells #[.string s, .int .i64 f, .slice a n c] 24)
    generalize World.alloc w _ = W0 at o0 ⊢
    refine (CZ'.out _ o0.2).mono ?_
    rintro e w1 ⟨rfl, hb⟩
    have O1 := Lib.hid (o0.step hb)
    clear o0 hb
    go_wp2_with fail
    go_ret2
    exact ⟨rfl, O1.out.2⟩
end Go.Proofs.YticflmepmmdnfaaDoor
