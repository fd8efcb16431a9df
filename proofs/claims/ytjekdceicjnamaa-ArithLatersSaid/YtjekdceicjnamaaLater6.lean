/- Contract of the reference's Years.Later. -/
import Derived.Test.YtjekdceicjnamaaLater3
import Derived.Test.YtjekdceicjnamaaFrom4
namespace Go.Proofs.Ytjekdceicjnamaa
set_option linter.unusedVariables false
set_option maxRecDepth 100000
open Go.RowKit

section
variable {w W W' : World} {B : Nat} {oc : Obj} {y m d : Int}
theorem Lt.years {t : TypeId} {v0 v1 v2 v3 v4 v5 v6 v7 v8 : Value} (h : Lt w B (.cells #[v0, v1, v2, v3, v4, v5, v6, v7, v8] t) y m d W) :
    W.cell? ⟨w.heap.size, 0, none⟩ = some v0 ∧ W.cell? ⟨w.heap.size, 1, none⟩ = some v1 ∧ W.cell? ⟨w.heap.size, 2, none⟩ = some v2 ∧ W.cell? ⟨w.heap.size, 3, none⟩ = some v3 ∧ W.cell? ⟨w.heap.size, 4, none⟩ = some v4 ∧ W.cell? ⟨w.heap.size, 5, none⟩ = some v5 ∧ W.cell? ⟨w.heap.size, 6, none⟩ = some v6 ∧ W.cell? ⟨w.heap.size, 7, none⟩ = some v7 ∧ W.cell? ⟨w.heap.size, 8, none⟩ = some v8 :=
  ⟨h.1.cell 0, h.1.cell 1, h.1.cell 2, h.1.cell 3, h.1.cell 4, h.1.cell 5, h.1.cell 6, h.1.cell 7, h.1.cell 8⟩
theorem Lt.stepped {y' m' : Int} (h : Lt w B oc y m d W) (hB : w.heap.size < B) (hd : DateAt W' B y' m' d) (hk : OneKept B W W') : Lt w B oc y' m' d W' :=
  ⟨h.1.oneKept hk (by omega), hd, hk.below_own h.2.2 (by omega)⟩
end
theorem years_Later_no (w : World) (s : ByteArray) (f : Int) (C : Nat) (a1 a2 : Option Addr) (n1 c1 n2 c2 : Nat) (ms : List Mon) (ls : List Int) (g : Nat) (x yy mm : Int) (hg : MarksAt w g C ls) (h : CalAt w a1 a2 n1 n2 ms ls)
    (hfd : ∀ W, Below w.heap.size w W → Calls Try.prog 62 #[.agg #[.string s, .int .i64 f, .int .i64 (C : Int), .slice a1 n1 c1, .slice a2 n2 c2, .slice (some ⟨g, 0, none⟩) C C, .int .i64 (shortOf ms), .int .i64 (longOf ms), .int .i64 (daysTo (shortOf ms) (longOf ms) ls (C : Int))], .int .i64 x] W fun e w' => e = .returned (.tuple #[.agg #[.int .i64 0, .int .i64 0, .int .i64 0], .int .i64 3]) ∧ Below W.heap.size W w') :
    Calls Try.prog 27 #[.agg #[.string s, .int .i64 f, .int .i64 (C : Int), .slice a1 n1 c1, .slice a2 n2 c2, .slice (some ⟨g, 0, none⟩) C C, .int .i64 (shortOf ms), .int .i64 (longOf ms), .int .i64 (daysTo (shortOf ms) (longOf ms) ls (C : Int))], .int .i64 x, .int .i64 yy, .int .i64 mm] w fun e w' =>  e = .returned (.tuple #[.int .i64 0, .int .i64 3]) ∧ Below w.heap.size w w' := by
  have H := Lib.hid h; have HG := Lib.hid hg; have HFD := Lib.hid hfd
  clear h hg hfd
  go_enter Try.func27, Try.ntmps27
  go_wp2_with fail
  refine (HFD.out _ (below_new (Below.refl _ _) _)).mono ?_
  rintro e w2 ⟨rfl, hb⟩
  have a0 := (At.new w (.cells #[.string s, .int .i64 f, .int .i64 (C : Int), .slice a1 n1 c1, .slice a2 n2 c2, .slice (some ⟨g, 0, none⟩) C C, .int .i64 (shortOf ms), .int .i64 (longOf ms), .int .i64 (daysTo (shortOf ms) (longOf ms) ls (C : Int))] 54)).then_ hb
  have b0 : Below w.heap.size w w2 := by (repeat' (first | exact Below.refl _ _ | assumption | refine Below.drew ?_ | refine below_drewN ?_ _ | refine below_new ?_ _ | refine below_set ?_ ?_ _ | refine below_then ?_ (by assumption) | refine below_drawn ?_ (by assumption) | exact Nat.le_refl _ | omega | (simp; done) | (simp; omega)))
  have hl2 := a0.lt
  clear hb
  go_wp2_with fail
  go_ret2
  exact ⟨rfl, by (repeat' (first | exact Below.refl _ _ | assumption | refine Below.drew ?_ | refine below_drewN ?_ _ | refine below_new ?_ _ | refine below_set ?_ ?_ _ | refine below_then ?_ (by assumption) | refine below_drawn ?_ (by assumption) | exact Nat.le_refl _ | omega | (simp; done) | (simp; omega)))⟩
theorem years_Later_arg (w : World) (s : ByteArray) (f : Int) (C : Nat) (a1 a2 : Option Addr) (n1 c1 n2 c2 : Nat) (ms : List Mon) (ls : List Int) (g : Nat) (x yy mm : Int) (hg : MarksAt w g C ls) (h : CalAt w a1 a2 n1 n2 ms ls) (y m d : Int) (hr : (inB (-10000) 10000 yy && inB (-10000) 10000 mm) = false)
    (hfd : ∀ W, Below w.heap.size w W → Calls Try.prog 62 #[.agg #[.string s, .int .i64 f, .int .i64 (C : Int), .slice a1 n1 c1, .slice a2 n2 c2, .slice (some ⟨g, 0, none⟩) C C, .int .i64 (shortOf ms), .int .i64 (longOf ms), .int .i64 (daysTo (shortOf ms) (longOf ms) ls (C : Int))], .int .i64 x] W fun e w' => e = .returned (.tuple #[.agg #[.int .i64 y, .int .i64 m, .int .i64 d], .int .i64 0]) ∧ Below W.heap.size W w') :
    Calls Try.prog 27 #[.agg #[.string s, .int .i64 f, .int .i64 (C : Int), .slice a1 n1 c1, .slice a2 n2 c2, .slice (some ⟨g, 0, none⟩) C C, .int .i64 (shortOf ms), .int .i64 (longOf ms), .int .i64 (daysTo (shortOf ms) (longOf ms) ls (C : Int))], .int .i64 x, .int .i64 yy, .int .i64 mm] w fun e w' =>  e = .returned (.tuple #[.int .i64 0, .int .i64 1]) ∧ Below w.heap.size w w' := by
  have hr' : inB (-10000) 10000 yy = false ∨ (inB (-10000) 10000 yy = true ∧ inB (-10000) 10000 mm = false) := by
    cases h1 : inB (-10000) 10000 yy <;> simp [h1] at hr ⊢
    exact hr
  clear hr
  rcases hr' with g1 | ⟨g1, g2⟩
  all_goals
    have H := Lib.hid h; have HG := Lib.hid hg; have HFD := Lib.hid hfd
    clear h hg hfd
    go_enter Try.func27, Try.ntmps27
    go_wp2_with fail
    refine (HFD.out _ (below_new (Below.refl _ _) _)).mono ?_
    rintro e w2 ⟨rfl, hb⟩
    have a0 := (At.new w (.cells #[.string s, .int .i64 f, .int .i64 (C : Int), .slice a1 n1 c1, .slice a2 n2 c2, .slice (some ⟨g, 0, none⟩) C C, .int .i64 (shortOf ms), .int .i64 (longOf ms), .int .i64 (daysTo (shortOf ms) (longOf ms) ls (C : Int))] 54)).then_ hb
    have b0 : Below w.heap.size w w2 := by (repeat' (first | exact Below.refl _ _ | assumption | refine Below.drew ?_ | refine below_drewN ?_ _ | refine below_new ?_ _ | refine below_set ?_ ?_ _ | refine below_then ?_ (by assumption) | refine below_drawn ?_ (by assumption) | exact Nat.le_refl _ | omega | (simp; done) | (simp; omega)))
    have hl2 := a0.lt
    clear hb
    go_wp2_with fail
    refine (ref_In _ _ _ _).mono ?_; rw [g1]; rintro e w3 ⟨rfl, rfl⟩
    go_wp2_with fail
    try (refine (ref_In _ _ _ _).mono ?_; rw [g2]; rintro e w3 ⟨rfl, rfl⟩; go_wp2_with fail)
    go_ret2
    exact ⟨rfl, by (repeat' (first | exact Below.refl _ _ | assumption | refine Below.drew ?_ | refine below_drewN ?_ _ | refine below_new ?_ _ | refine below_set ?_ ?_ _ | refine below_then ?_ (by assumption) | refine below_drawn ?_ (by assumption) | exact Nat.le_refl _ | omega | (simp; done) | (simp; omega)))⟩
end Go.Proofs.Ytjekdceicjnamaa
