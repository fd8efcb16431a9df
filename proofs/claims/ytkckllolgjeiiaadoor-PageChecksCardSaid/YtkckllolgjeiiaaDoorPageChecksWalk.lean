/- PageChecks: the Go text returns true at every input, and writes nothing that was there. -/
import Derived.Test.YtkckllolgjeiiaaDoorRows
import Derived.Test.YtkckllolgjeiiaaDoorPage3
import Derived.Test.YtkckllolgjeiiaaDoorPage6
import Derived.Test.YtkckllolgjeiiaaDoorPage7
import Derived.Test.YtkckllolgjeiiaaDoorQuiet
namespace Go.Proofs.YtkckllolgjeiiaaDoor.pageChecksLaw
set_option linter.unusedVariables false
set_option maxRecDepth 100000
open Go.RowKit Go.ChangeShapes Go.WideShapes Go.Shelf

theorem litErr : tblErr 7 [⟨#[97]⟩, ⟨#[97]⟩] [] = 7 := by decide +kernel
set_option maxHeartbeats 8000000 in
theorem core (w : World) (a1 a2 : Option Addr) (n1 c1 n2 c2 : Nat) (hd : List ByteArray) (rs : List (List ByteArray)) (hT : Lib.Utf8Tabs 1 2 w) (k1 : n1 ≤ c1) (m1 : c1 ≤ 9223372036854775807) (k2 : n2 ≤ c2) (m2 : c2 ≤ 9223372036854775807)
    (h1 : Strs w w.heap.size a1 n1 hd) (h2 : RowsAt w w.heap.size a2 n2 rs) (ha2 : a2 = none → n2 = 0 ∧ c2 = 0) :
    Calls Tryd.prog 3 #[.agg #[.slice a1 n1 c1, .slice a2 n2 c2]] w fun e w' => e = .returned (.bool true) ∧ Below w.heap.size w w' := by
  have HT := Lib.hid hT; have H1 := Lib.hid h1; have H2 := Lib.hid h2; have HA := Lib.hid ha2
  obtain ⟨E, hE⟩ : ∃ E, E = tblErr 7 hd rs := ⟨_, rfl⟩
  have HE := Lib.hid hE
  have HT0 := Lib.hid (show TB w (.cells #[.slice a1 n1 c1, .slice a2 n2 c2] 25) (w.alloc (.cells #[.slice a1 n1 c1, .slice a2 n2 c2] 25)) from ⟨below_new (Below.refl w.heap.size w) _, At.new w _⟩)
  clear hT h1 h2 ha2 hE
  go_enter Tryd.func3, Tryd.ntmps3
  go_wp2_with fail
  have HT1 := Lib.hid (show TB w (.cells #[.slice a1 n1 c1, .slice a2 n2 c2] 25) ((w.alloc (.cells #[.slice a1 n1 c1, .slice a2 n2 c2] 25)).alloc (.cells #[.string ⟨#[97]⟩, .string ⟨#[97]⟩] 9)) from HT0.out.then_ (by (repeat' (first | exact Below.refl _ _ | assumption | refine Below.drew ?_ | refine below_drewN ?_ _ | refine below_new ?_ _ | refine below_set ?_ ?_ _ | refine below_then ?_ (by assumption) | refine below_drawn ?_ (by assumption) | exact Nat.le_refl _ | omega | (simp; done) | (simp; omega)))))
  have AL := Lib.hid (At.new (w.alloc (.cells #[.slice a1 n1 c1, .slice a2 n2 c2] 25)) (.cells #[.string ⟨#[97]⟩, .string ⟨#[97]⟩] 9))
  have SZ := Lib.hid (World.size_alloc w (.cells #[.slice a1 n1 c1, .slice a2 n2 c2] 25))
  generalize World.alloc (World.alloc w _) _ = W1 at HT1 AL ⊢
  rw [SZ.out] at AL
  have HL1 : Strs W1 W1.heap.size (some ⟨w.heap.size + 1, 0, none⟩) 2 [⟨#[97]⟩, ⟨#[97]⟩] := ⟨rfl, by omega, (fun s hs => by have : s = ⟨#[97]⟩ := (by simpa using hs); subst this; decide), fun _ => ⟨_, _, rfl, AL.out.lt, fun i hi => by
    have h0 := AL.out.cell 0
    have h1 := AL.out.cell 1
    rcases (show i = 0 ∨ i = 1 by omega) with rfl | rfl
    · exact h0
    · exact h1⟩⟩
  refine (page_Check W1 (some ⟨w.heap.size + 1, 0, none⟩) none 2 2 0 0 [⟨#[97]⟩, ⟨#[97]⟩] [] (Utf8Tabs_below HT.out HT1.out.1) (by omega) (by omega) (by omega) (by omega) HL1 ⟨rfl, by omega, fun h => absurd h (by omega)⟩ (fun _ => ⟨rfl, rfl⟩)).mono ?_
  rw [litErr]
  rintro e w2 ⟨rfl, hb⟩
  have HT2 := Lib.hid (HT1.out.then_ hb)
  clear HT1 AL HL1 hb SZ HT0
  go_wp2_with fail
  (refine region_class (TB w (.cells #[.slice a1 n1 c1, .slice a2 n2 c2] 25)) (by kernel_rfl) (by kernel_rfl) (HT2.out.then_ ((Below.refl _ _).drew)) ?_; repeat ((first | (refine class_take ?_ (by rfl) ?_ ?_; rotate_left; focus (intro wq hq; ((have x0 : wq.cell? ⟨w.heap.size, 0, none⟩ = some (.slice a1 n1 c1) := hq.2.cell 0; have x1 : wq.cell? ⟨w.heap.size, 1, none⟩ = some (.slice a2 n2 c2) := hq.2.cell 1)); go_simp; first | done | with_reducible rfl | (first | (go_at_call 6; refine (page_Check _ _ _ _ _ _ _ hd rs (Utf8Tabs_below HT.out hq.1) k1 m1 k2 m2 (H1.out.below hq.1 (Nat.le_refl _) |>.of_le hq.1.size) (H2.out.below hq.1 (Nat.le_refl _) |>.of_le hq.1.size) HA.out).mono ?_; rw [← HE.out]; rintro e w' ⟨rfl, hb⟩; refine ⟨?_, hq.then_ hb⟩; with_reducible rfl) | (go_at_call 7; refine (ref_PageTableError _ _ _ _ _ _ _ hd rs (Utf8Tabs_below HT.out hq.1) k1 m1 k2 m2 (H1.out.below hq.1 (Nat.le_refl _) |>.of_le hq.1.size) (H2.out.below hq.1 (Nat.le_refl _) |>.of_le hq.1.size)).mono ?_; rw [← HE.out]; rintro e w' ⟨rfl, hb⟩; refine ⟨?_, hq.then_ hb⟩; with_reducible rfl)))) | refine class_skip (by rfl) ?_); try simp only [Act.put, List.setIfInBounds_toArray, List.set_cons_zero, List.set_cons_succ]))
  refine wpQuiet_nil ?_
  intro W6 o6
  go_wp2_with fail
  go_ret
  exact ⟨by simp, o6.1⟩
theorem walk {H : Type} {enc : TypeId × Value → H} {v0 : Value} {d0 : DataW H} {p0 : List MemPlace} {base : Nat} (W : World)
    (o0 : Value.okWide Tryd.prog W .any base 25 v0) (h0 : DataW.Trod enc Tryd.prog W 0 (fun _ => true) true 25 v0 d0 p0) (hL : laidMet Tryd.prog Rows.pageChecksRow.laid W) :
    Calls Tryd.prog 3 #[v0] W fun e w' => e = .returned (.bool true) ∧ Below W.heap.size W w' := by
  obtain ⟨a1, c1, a2, c2, hd, rs, rfl, k1, m1, k2, m2, h1, h2, h3⟩ := open_Table o0 h0
  exact core W a1 a2 _ c1 _ c2 hd rs (laid_utf8 hL) k1 m1 k2 m2 h1 h2 h3
end Go.Proofs.YtkckllolgjeiiaaDoor.pageChecksLaw
