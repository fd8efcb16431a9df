/- The law's fixed example of rooms. -/
import Derived.Test.YtddiicljoekhmaaRmD
namespace Go.Proofs.Ytddiicljoekhmaa
set_option linter.unusedVariables false
set_option linter.unusedSimpArgs false
set_option maxRecDepth 100000
open Go.RowKit

def me2 : ByteArray := ⟨#[109, 101]⟩
theorem fact_book : bookE one3 0 1000 me2 [] [] = 0 := by decide +kernel
theorem fact_rows : book1 one3 0 1000 me2 [] [] = [(one3, 0, 1000, me2)] ∧ book2 one3 0 1000 me2 [] [] = [] := by decide +kernel
theorem fact_find : findO 500 0 5000 [(one3, 0, 1000, me2)] [] = (two3, 0, 0) := by decide +kernel
theorem fact_ok : okBkg (one3, 0, 1000, me2) := ⟨by decide, ⟨by decide, by decide⟩, ⟨by decide, by decide⟩, by decide⟩
theorem pair_sizes : ∀ s ∈ [one3, two3], s.size ≤ 9223372036854775807 := by decide +kernel
/-- New rooms of the pair. -/
def NewPair (w : World) (e : Ending) (w' : World) : Prop :=
  ∃ P gn gb cn, e = .returned (.tuple #[.pointer (some ⟨P, 0, none⟩), .int .i64 0]) ∧ Below w.heap.size w w' ∧ w.heap.size ≤ P ∧ w.heap.size ≤ gn ∧ w.heap.size ≤ gb ∧ RoomsSt w' P gn gb cn w'.heap.size (.slice none 0 0) (.slice none 0 0) [] []
theorem new_pair (w : World) (b : Nat) (h : Txts w w.heap.size (some ⟨b, 0, none⟩) 2 [one3, two3]) :
    Calls Try.prog 6 #[.slice (some ⟨b, 0, none⟩) 2 2] w (NewPair w) := by
  refine (rooms_New w _ 2 2 [one3, two3] h pair_sizes (by omega) (by omega)).mono ?_
  rintro e w2 ⟨v, rfl, hb, hok⟩
  obtain ⟨P, gn, gb, cn, rfl, p1, p2, p3, st⟩ := st_of_new (hok newE_pair)
  exact ⟨P, gn, gb, cn, by rw [newE_pair], hb, p1, p2, p3, st⟩
set_option maxHeartbeats 4000000 in
theorem law_roomsFact (w : World) : Calls Try.prog 5 #[] w fun e w' => e = .returned (.bool true) ∧ Below w.heap.size w w' := by
  go_enter Try.func5, Try.ntmps5
  go_wp2_with fail
  refine (law_pair _).mono ?_
  rintro e w1 ⟨pb, rfl, htx, hb1⟩
  go_wp2_with fail
  refine (new_pair w1 pb htx).mono ?_
  rintro e w2 ⟨P, gn, gb, cn, rfl, hb2, p1, p2, p3, st⟩
  have ST := Lib.hid st; clear st
  have HB := Lib.hid (below_then hb1 hb2)
  have hs1 := hb1.size
  have q1 : w.heap.size ≤ gb := by omega
  clear hb1 hb2 htx
  go_wp2_with fail
  refine (rooms_Book w2 P gn gb cn w2.heap.size _ _ [] [] one3 0 1000 me2 ST.out fact_ok (by simp) (by simp)).mono ?_
  rintro e w3 ⟨rfl, v1, v2, st3, kept, _, _⟩
  rw [fact_rows.1, fact_rows.2] at st3
  rw [fact_book]
  have ST3 := Lib.hid st3
  have hb3 : Below w.heap.size w2 w3 := kept.below (base := 0) HB.out.size q1 (by intro g e; simp [Value.ownBlock] at e) (by intro g e; simp [Value.ownBlock] at e)
  have HB3 := Lib.hid (HB.out.trans hb3)
  have hs3 := HB3.out.size
  clear st3 kept hb3
  go_wp2_with fail
  refine (rooms_Find w3 P gn gb cn w2.heap.size v1 v2 _ _ 500 0 5000 (by constructor <;> omega) (by constructor <;> omega) (by constructor <;> omega) ST3.out (by intro y hy; simp at hy; subst hy; simp) (by intro y hy; simp at hy)).mono ?_
  rintro e w4 ⟨rfl, hb4⟩
  rw [fact_find]
  have HB4 := Lib.hid (below_then HB3.out hb4)
  clear hb4
  have htw : (two3.toList == [116, 119, 111]) = true := by decide +kernel
  go_wp2_with fail
  go_ret
  exact ⟨rfl, HB4.out⟩
end Go.Proofs.Ytddiicljoekhmaa
