import Derived.Test.YtlbjmpdonnlieaaGreatDoorMgJ
import Derived.Test.YtlbjmpdonnlieaaGreatDoorMgY
import Derived.Test.YtlbjmpdonnlieaaGreatDoorMgA
import Derived.Deep.Cut
import Derived.RegionTactic
import Derived.ChangeAlike
set_option linter.unusedSimpArgs false
namespace Go.Proofs.YtlbjmpdonnlieaaGreatDoor
set_option linter.unusedVariables false
set_option maxRecDepth 100000
open Go.RowKit
def DateAt (W : World) (b : Nat) (y m d : Int) : Prop := At W b (.cells #[.int .i64 y, .int .i64 m, .int .i64 d] 52)
theorem DateAt.month {W : World} {b : Nat} {y m d : Int} (h : DateAt W b y m d) (m' : Int) : DateAt (W.setCell ⟨b, 1, none⟩ (.int .i64 m')) b y m' d := by
  have := At.store h 1 (.int .i64 m'); simpa [DateAt] using this
theorem DateAt.year {W : World} {b : Nat} {y m d : Int} (h : DateAt W b y m d) (y' : Int) : DateAt (W.setCell ⟨b, 0, none⟩ (.int .i64 y')) b y' m d := by
  have := At.store h 0 (.int .i64 y'); simpa [DateAt] using this
theorem DateAt.day {W : World} {b : Nat} {y m d : Int} (h : DateAt W b y m d) (d' : Int) : DateAt (W.setCell ⟨b, 2, none⟩ (.int .i64 d')) b y m d' := by
  have := At.store h 2 (.int .i64 d'); simpa [DateAt] using this
theorem DateAt.cells {W : World} {b : Nat} {y m d : Int} (h : DateAt W b y m d) : W.cell? ⟨b, 0, none⟩ = some (.int .i64 y) ∧ W.cell? ⟨b, 1, none⟩ = some (.int .i64 m) ∧ W.cell? ⟨b, 2, none⟩ = some (.int .i64 d) ∧ W.frozen? ⟨b, 0, none⟩ = false ∧ W.frozen? ⟨b, 1, none⟩ = false ∧ W.frozen? ⟨b, 2, none⟩ = false :=
  ⟨At.cell h 0, At.cell h 1, At.cell h 2, At.frozen h 0, At.frozen h 1, At.frozen h 2⟩
set_option maxHeartbeats 2000000 in
theorem years_step_up (w : World) (s : ByteArray) (f : Int) (C : Nat) (a1 a2 : Option Addr) (n1 c1 n2 c2 : Nat) (ms : List Mon) (ls : List Int) (g b : Nat) (y : Int) (k : Nat) (d : Int) (r : Int × Nat) (hr : stepP n1 true (y, k) = r) (hk : k < n1) (hn : n1 ≤ 20) (y1 : -20000 ≤ y) (y2 : y ≤ 20000) (hd : DateAt w b y ((k : Int) + 1) d) :
    Calls Tryz.prog 86 #[.agg #[.string s, .int .i64 f, .int .i64 (C : Int), .slice a1 n1 c1, .slice a2 n2 c2, .slice (some ⟨g, 0, none⟩) C C, .int .i64 (shortOf ms), .int .i64 (longOf ms), .int .i64 (daysTo (shortOf ms) (longOf ms) ls (C : Int))], .pointer (some ⟨b, 0, none⟩), .int .i64 1] w fun e w' => e = .returned (.tuple #[]) ∧ DateAt w' b r.1 ((r.2 : Int) + 1) d ∧ OneKept b w w' := by
  have hbl := At.lt hd
  have hd1 : DateAt (w.alloc (.cells #[.string s, .int .i64 f, .int .i64 (C : Int), .slice a1 n1 c1, .slice a2 n2 c2, .slice (some ⟨g, 0, none⟩) C C, .int .i64 (shortOf ms), .int .i64 (longOf ms), .int .i64 (daysTo (shortOf ms) (longOf ms) ls (C : Int))] 43)) b y ((k : Int) + 1) d := At.alloc hd _
  have hk1 : OneKept b w (w.alloc (.cells #[.string s, .int .i64 f, .int .i64 (C : Int), .slice a1 n1 c1, .slice a2 n2 c2, .slice (some ⟨g, 0, none⟩) C C, .int .i64 (shortOf ms), .int .i64 (longOf ms), .int .i64 (daysTo (shortOf ms) (longOf ms) ls (C : Int))] 43)) := (OneKept.refl b w).alloc _
  have ho := At.new w (.cells #[.string s, .int .i64 f, .int .i64 (C : Int), .slice a1 n1 c1, .slice a2 n2 c2, .slice (some ⟨g, 0, none⟩) C C, .int .i64 (shortOf ms), .int .i64 (longOf ms), .int .i64 (daysTo (shortOf ms) (longOf ms) ls (C : Int))] 43)
  obtain ⟨e0, e1, e2, f0, f1, f2⟩ := hd1.cells
  have c3 : (w.alloc (.cells #[.string s, .int .i64 f, .int .i64 (C : Int), .slice a1 n1 c1, .slice a2 n2 c2, .slice (some ⟨g, 0, none⟩) C C, .int .i64 (shortOf ms), .int .i64 (longOf ms), .int .i64 (daysTo (shortOf ms) (longOf ms) ls (C : Int))] 43)).cell? ⟨w.heap.size, 3, none⟩ = some (.slice a1 n1 c1) := ho.cell 3
  have hbn : (w.heap.size == b) = false := by simp; omega
  have hbn' : (b == w.heap.size) = false := by simp; omega
  by_cases hlt : k + 1 < n1
  · rw [stepP_up hlt] at hr
    subst hr
    have q1 : ((k : Int) + 1 + 1 == 0) = false := by simp; omega
    have q2 : ¬ ((n1 : Int) < (k : Int) + 1 + 1) := by omega
    go_enter Tryz.func86, Tryz.ntmps86
    go_upto_region 1 with fail
    generalize World.alloc w _ = W1 at *
    go_wp2_with fail
    go_quiet (fail)
    go_wp2_with fail
    go_end0
    have hfin := (hd1).month ((k : Int) + 1 + 1)
    refine ⟨rfl, ?_, ?_⟩
    · rw [show (((k + 1 : Nat) : Int) + 1) = (k : Int) + 1 + 1 by omega]; exact hfin
    · exact q94
  · rw [stepP_over hlt] at hr
    subst hr
    have q1 : ((k : Int) + 1 + 1 == 0) = false := by simp; omega
    have q2 : (n1 : Int) < (k : Int) + 1 + 1 := by omega
    go_enter Tryz.func86, Tryz.ntmps86
    go_upto_region 1 with fail
    generalize World.alloc w _ = W1 at *
    go_wp2_with fail
    go_quiet (fail)
    go_wp2_with fail
    go_end0
    have hfin := (((hd1).month ((k : Int) + 1 + 1)).year (y + 1)).month 1
    refine ⟨rfl, ?_, ?_⟩
    · rw [show (((0 : Nat) : Int) + 1) = 1 by omega]; exact hfin
    · exact q94
set_option maxHeartbeats 2000000 in
theorem years_step_down (w : World) (s : ByteArray) (f : Int) (C : Nat) (a1 a2 : Option Addr) (n1 c1 n2 c2 : Nat) (ms : List Mon) (ls : List Int) (g b : Nat) (y : Int) (k : Nat) (d : Int) (r : Int × Nat) (hr : stepP n1 false (y, k) = r) (hk : k < n1) (hn : n1 ≤ 20) (y1 : -20000 ≤ y) (y2 : y ≤ 20000) (hd : DateAt w b y ((k : Int) + 1) d) :
    Calls Tryz.prog 86 #[.agg #[.string s, .int .i64 f, .int .i64 (C : Int), .slice a1 n1 c1, .slice a2 n2 c2, .slice (some ⟨g, 0, none⟩) C C, .int .i64 (shortOf ms), .int .i64 (longOf ms), .int .i64 (daysTo (shortOf ms) (longOf ms) ls (C : Int))], .pointer (some ⟨b, 0, none⟩), .int .i64 (-1)] w fun e w' => e = .returned (.tuple #[]) ∧ DateAt w' b r.1 ((r.2 : Int) + 1) d ∧ OneKept b w w' := by
  have hbl := At.lt hd
  have hd1 : DateAt (w.alloc (.cells #[.string s, .int .i64 f, .int .i64 (C : Int), .slice a1 n1 c1, .slice a2 n2 c2, .slice (some ⟨g, 0, none⟩) C C, .int .i64 (shortOf ms), .int .i64 (longOf ms), .int .i64 (daysTo (shortOf ms) (longOf ms) ls (C : Int))] 43)) b y ((k : Int) + 1) d := At.alloc hd _
  have hk1 : OneKept b w (w.alloc (.cells #[.string s, .int .i64 f, .int .i64 (C : Int), .slice a1 n1 c1, .slice a2 n2 c2, .slice (some ⟨g, 0, none⟩) C C, .int .i64 (shortOf ms), .int .i64 (longOf ms), .int .i64 (daysTo (shortOf ms) (longOf ms) ls (C : Int))] 43)) := (OneKept.refl b w).alloc _
  have ho := At.new w (.cells #[.string s, .int .i64 f, .int .i64 (C : Int), .slice a1 n1 c1, .slice a2 n2 c2, .slice (some ⟨g, 0, none⟩) C C, .int .i64 (shortOf ms), .int .i64 (longOf ms), .int .i64 (daysTo (shortOf ms) (longOf ms) ls (C : Int))] 43)
  obtain ⟨e0, e1, e2, f0, f1, f2⟩ := hd1.cells
  have c3 : (w.alloc (.cells #[.string s, .int .i64 f, .int .i64 (C : Int), .slice a1 n1 c1, .slice a2 n2 c2, .slice (some ⟨g, 0, none⟩) C C, .int .i64 (shortOf ms), .int .i64 (longOf ms), .int .i64 (daysTo (shortOf ms) (longOf ms) ls (C : Int))] 43)).cell? ⟨w.heap.size, 3, none⟩ = some (.slice a1 n1 c1) := ho.cell 3
  have hbn : (w.heap.size == b) = false := by simp; omega
  have hbn' : (b == w.heap.size) = false := by simp; omega
  by_cases hlt : 1 ≤ k
  · rw [stepP_down hlt] at hr
    subst hr
    have q1 : ((k : Int) + 1 + -1 == 0) = false := by simp; omega
    have q2 : ¬ ((n1 : Int) < (k : Int) + 1 + -1) := by omega
    go_enter Tryz.func86, Tryz.ntmps86
    go_upto_region 1 with fail
    generalize World.alloc w _ = W1 at *
    go_wp2_with fail
    go_quiet (fail)
    go_wp2_with fail
    go_end0
    have hfin := (hd1).month ((k : Int) + 1 + -1)
    refine ⟨rfl, ?_, ?_⟩
    · rw [show (((k - 1 : Nat) : Int) + 1) = (k : Int) + 1 + -1 by omega]; exact hfin
    · exact q94
  · rw [show k = 0 from by omega, stepP_under] at hr
    subst hr
    have q1 : ((k : Int) + 1 + -1 == 0) = true := by simp; omega
    go_enter Tryz.func86, Tryz.ntmps86
    go_upto_region 1 with fail
    generalize World.alloc w _ = W1 at *
    go_wp2_with fail
    go_region
    go_wp2_with fail
    go_quiet (fail)
    go_wp2_with fail
    go_end0
    have hfin := (((hd1).month ((k : Int) + 1 + -1)).year (y - 1)).month (n1 : Int)
    refine ⟨rfl, ?_, ?_⟩
    · rw [show (((n1 - 1 : Nat) : Int) + 1) = (n1 : Int) by omega]; exact hfin
    · exact q94
end Go.Proofs.YtlbjmpdonnlieaaGreatDoor
