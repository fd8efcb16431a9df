/- The reference's SameTexts at two rows of the same strings; the law's own small table. -/
import Derived.Test.YthpiiocncdpimaaDoorPly6
namespace Go.Proofs.YthpiiocncdpimaaDoor
set_option linter.unusedVariables false
set_option maxRecDepth 100000
open Go.RowKit Go.Shelf

set_option maxHeartbeats 4000000 in
theorem ref_SameTexts (w : World) (B : Nat) (a1 a2 : Option Addr) (n c1 c2 : Nat) (ls : List ByteArray) (hB : B ≤ w.heap.size) (h1 : Strs w B a1 n ls) (h2 : Strs w B a2 n ls) :
    Calls Tryd.prog 8 #[.slice a1 n c1, .slice a2 n c2] w fun e w' => e = .returned (.bool true) ∧ Below w.heap.size w w' := by
  have hn := h1.2.1
  have H1 := Lib.hid h1; have H2 := Lib.hid h2; have HB := Lib.hid hB
  clear h1 h2 hB
  go_enter Tryd.func8, Tryd.ntmps8
  go_wp2_with fail
  go_loopw [5, 13] (fun a i wr => ∃ j : Nat, j ≤ n ∧ i = .int .i64 j ∧ Below w.heap.size w wr) (fun a i _ => n - (intOf i).toNat)
  case atStart => exact ⟨0, by omega, rfl, Below.refl _ _⟩
  case round =>
    obtain ⟨j, hj, rfl, hb⟩ := hrel
    by_cases hlt : j < n
    · obtain ⟨b1, o1, rfl, hb1, hc1⟩ := H1.out.2.2.2 (by omega)
      obtain ⟨b2, o2, rfl, hb2, hc2⟩ := H2.out.2.2.2 (by omega)
      obtain ⟨x, hx⟩ : ∃ x : List UInt8, ls.getD j ByteArray.empty = ⟨x.toArray⟩ := ⟨(ls.getD j ByteArray.empty).data.toList, by simp⟩
      have hsz := HB.out
      have c1' := (hb.cell (p := ⟨b1, o1 + j, none⟩) (show b1 < _ by omega)).trans (hc1 j hlt)
      have c2' := (hb.cell (p := ⟨b2, o2 + j, none⟩) (show b2 < _ by omega)).trans (hc2 j hlt)
      rw [hx] at c1' c2'
      have hz := hb.size
      have k1 : b1 < wr.heap.size := by omega
      have k2 : b2 < wr.heap.size := by omega
      have d1 : (x != x) = false := by simp
      have HBe := Lib.hid hb
      clear hx hz hb hc1 hc2 hb1 hb2 hsz
      go_wp2_with fail
      go_quiet (fail)
      go_wp2_with fail
      go_roundw
      case rel => exact ⟨j + 1, by omega, by go_num, below_drewN HBe.out _⟩
      case measure => simp [intOf]; omega
    · obtain rfl : j = n := by omega
      have HBe := Lib.hid hb
      clear hb
      go_wp2_with fail
      go_ret
      exact ⟨rfl, HBe.out⟩
def twoH : List ByteArray := [⟨#[97]⟩, ⟨#[98]⟩]
def twoR : List ByteArray := [⟨#[49]⟩, ⟨#[50, 50]⟩]
def twoT : List UInt8 := [97, 32, 32, 98, 10, 45, 32, 32, 45, 45, 10, 49, 32, 32, 50, 50, 10, 112, 97, 103, 101, 32, 49, 32, 111, 102, 32, 49, 10]
theorem twoLit : layR twoH [twoR] 20 4 = ([twoT], 0) := by decide +kernel
theorem four_at (w : World) (o0 o1 o2 o3 : Obj) : At ((((w.alloc o0).alloc o1).alloc o2).alloc o3) w.heap.size o0 ∧ At ((((w.alloc o0).alloc o1).alloc o2).alloc o3) (w.heap.size + 1) o1 ∧ At ((((w.alloc o0).alloc o1).alloc o2).alloc o3) (w.heap.size + 1 + 1) o2 ∧ At ((((w.alloc o0).alloc o1).alloc o2).alloc o3) (w.heap.size + 1 + 1 + 1) o3 ∧ Below w.heap.size w ((((w.alloc o0).alloc o1).alloc o2).alloc o3) := by
  have s1 := World.size_alloc w o0
  have s2 := World.size_alloc (w.alloc o0) o1
  have s3 := World.size_alloc ((w.alloc o0).alloc o1) o2
  have a0 := At.new w o0
  have a1 := At.new (w.alloc o0) o1
  have a2 := At.new ((w.alloc o0).alloc o1) o2
  have a3 := At.new (((w.alloc o0).alloc o1).alloc o2) o3
  have hb0 : Below w.heap.size w ((((w.alloc o0).alloc o1).alloc o2).alloc o3) := by (repeat' (first | exact Below.refl _ _ | assumption | refine Below.drew ?_ | refine below_drewN ?_ _ | refine below_new ?_ _ | refine below_set ?_ ?_ _ | refine below_then ?_ (by assumption) | refine below_drawn ?_ (by assumption) | exact Nat.le_refl _ | omega | (simp; done) | (simp; omega)))
  have hb1 : Below (w.alloc o0).heap.size (w.alloc o0) ((((w.alloc o0).alloc o1).alloc o2).alloc o3) := by (repeat' (first | exact Below.refl _ _ | assumption | refine Below.drew ?_ | refine below_drewN ?_ _ | refine below_new ?_ _ | refine below_set ?_ ?_ _ | refine below_then ?_ (by assumption) | refine below_drawn ?_ (by assumption) | exact Nat.le_refl _ | omega | (simp; done) | (simp; omega)))
  have hb2 : Below ((w.alloc o0).alloc o1).heap.size ((w.alloc o0).alloc o1) ((((w.alloc o0).alloc o1).alloc o2).alloc o3) := by (repeat' (first | exact Below.refl _ _ | assumption | refine Below.drew ?_ | refine below_drewN ?_ _ | refine below_new ?_ _ | refine below_set ?_ ?_ _ | refine below_then ?_ (by assumption) | refine below_drawn ?_ (by assumption) | exact Nat.le_refl _ | omega | (simp; done) | (simp; omega)))
  have hb3 : Below (((w.alloc o0).alloc o1).alloc o2).heap.size (((w.alloc o0).alloc o1).alloc o2) ((((w.alloc o0).alloc o1).alloc o2).alloc o3) := by (repeat' (first | exact Below.refl _ _ | assumption | refine Below.drew ?_ | refine below_drewN ?_ _ | refine below_new ?_ _ | refine below_set ?_ ?_ _ | refine below_then ?_ (by assumption) | refine below_drawn ?_ (by assumption) | exact Nat.le_refl _ | omega | (simp; done) | (simp; omega)))
  have r0 := a0.then_ hb1
  have r1 := a1.then_ hb2
  have r2 := a2.then_ hb3
  rw [s1] at r1 s2
  rw [s2] at r2 s3
  rw [s3] at a3
  exact ⟨r0, r1, r2, a3, hb0⟩
theorem strs_two {W : World} {b : Nat} {s t : ByteArray} (h : At W b (.cells #[.string s, .string t] 9)) (hs : s.size ≤ 100) (ht : t.size ≤ 100) : Strs W W.heap.size (some ⟨b, 0, none⟩) 2 [s, t] :=
  ⟨rfl, by omega, (fun x hx => by
    have : x = s ∨ x = t := by simpa using hx
    rcases this with rfl | rfl <;> omega), fun _ => ⟨_, _, rfl, h.lt, fun i hi => by
    have h0 := h.cell 0
    have h1 := h.cell 1
    rcases (show i = 0 ∨ i = 1 by omega) with rfl | rfl
    · exact h0
    · exact h1⟩⟩
set_option maxHeartbeats 4000000 in
theorem law_two (w : World) : Calls Tryd.prog 7 #[] w fun e w' => ∃ b1 b2, e = .returned (.agg #[.slice (some ⟨b1, 0, none⟩) 2 2, .slice (some ⟨b2, 0, none⟩) 1 1]) ∧ Strs w' w'.heap.size (some ⟨b1, 0, none⟩) 2 twoH ∧ RowsAt w' w'.heap.size (some ⟨b2, 0, none⟩) 1 [twoR] ∧ Below w.heap.size w w' := by
  go_enter Tryd.func7, Tryd.ntmps7
  go_wp2_with fail
  obtain ⟨r0, r1, r2, r3, hb⟩ := four_at w (.cells #[.slice (some ⟨w.heap.size + 1, 0, none⟩) 2 2, .slice (some ⟨w.heap.size + 1 + 1 + 1, 0, none⟩) 1 1] 25) (.cells #[.string ⟨#[97]⟩, .string ⟨#[98]⟩] 9) (.cells #[.string ⟨#[49]⟩, .string ⟨#[50, 50]⟩] 9) (.cells #[.slice (some ⟨w.heap.size + 1 + 1, 0, none⟩) 2 2] 22)
  have y0 := r0.cell 0; have y1 := r0.cell 1
  simp at y0 y1
  generalize World.alloc (World.alloc (World.alloc (World.alloc w _) _) _) _ = WF at r0 r1 r2 r3 hb y0 y1 ⊢
  exact bodyPost_ret (v := .agg #[.slice (some ⟨w.heap.size + 1, 0, none⟩) 2 2, .slice (some ⟨w.heap.size + 1 + 1 + 1, 0, none⟩) 1 1]) (by simp [results, Tryd.results7, go_sem, y0, y1]) rfl
    ⟨_, _, rfl, strs_two r1 (by decide) (by decide), ⟨rfl, by omega, fun _ => ⟨_, _, rfl, r3.lt, fun i hi => by
      obtain rfl : i = 0 := by omega
      exact ⟨_, 2, by decide, by omega, r3.cell 0, strs_two r2 (by decide) (by decide)⟩⟩⟩, hb⟩
end Go.Proofs.YthpiiocncdpimaaDoor
