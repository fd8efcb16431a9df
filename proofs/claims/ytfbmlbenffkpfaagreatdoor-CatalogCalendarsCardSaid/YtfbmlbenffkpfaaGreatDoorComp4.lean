import Derived.Test.YtfbmlbenffkpfaaGreatDoorMgO
import Derived.Test.YtfbmlbenffkpfaaGreatDoorMgV
import Derived.Test.YtfbmlbenffkpfaaGreatDoorQuiet
namespace Go.Proofs.YtfbmlbenffkpfaaGreatDoor
set_option linter.unusedVariables false
set_option maxRecDepth 100000
open Go.RowKit
theorem ints_then4 {w w' : World} {a : Option Addr} {n : Nat} {xs : List Int} (h : Ints w w.heap.size a n xs) (hb : Below w.heap.size w w') : Ints w' w'.heap.size a n xs := (h.below hb (Nat.le_refl _)).more hb.size
set_option maxHeartbeats 4000000 in
theorem ref_SameCalendar (w : World) (s : ByteArray) (f c : Int) (p1 p2 p3 p4 : Option Addr) (n c1 m c2 c3 c4 : Nat) (ms : List Mon) (ls : List Int)
    (h1 : Months w w.heap.size p1 n ms) (h2 : Ints w w.heap.size p2 m ls) (h3 : Months w w.heap.size p3 n ms) (h4 : Ints w w.heap.size p4 m ls) :
    Calls Tryz.prog 20 #[.agg #[.string s, .int .i64 f, .int .i64 c, .slice p1 n c1, .slice p2 m c2], .agg #[.string s, .int .i64 f, .int .i64 c, .slice p3 n c3, .slice p4 m c4]] w fun e w' => e = .returned (.bool true) ∧ Below w.heap.size w w' := by
  have mx := h1.max
  have H1 := Lib.hid h1; have H2 := Lib.hid h2; have H3 := Lib.hid h3; have H4 := Lib.hid h4; clear h1 h2 h3 h4
  go_enter Tryz.func20, Tryz.ntmps20
  go_wp2_with fail
  have ha := (At.new w (.cells #[.string s, .int .i64 f, .int .i64 c, .slice p1 n c1, .slice p2 m c2] 33)).alloc (.cells #[.string s, .int .i64 f, .int .i64 c, .slice p3 n c3, .slice p4 m c4] 33)
  have hc := At.new1 w (.cells #[.string s, .int .i64 f, .int .i64 c, .slice p1 n c1, .slice p2 m c2] 33) (.cells #[.string s, .int .i64 f, .int .i64 c, .slice p3 n c3, .slice p4 m c4] 33)
  have hb : Below w.heap.size w ((w.alloc (.cells #[.string s, .int .i64 f, .int .i64 c, .slice p1 n c1, .slice p2 m c2] 33)).alloc (.cells #[.string s, .int .i64 f, .int .i64 c, .slice p3 n c3, .slice p4 m c4] 33)) := by (repeat' (first | exact Below.refl _ _ | assumption | refine Below.drew ?_ | refine below_drewN ?_ _ | refine below_new ?_ _ | refine below_set ?_ ?_ _ | refine below_then ?_ (by assumption) | refine below_drawn ?_ (by assumption) | exact Nat.le_refl _ | omega | (simp; done) | (simp; omega)))
  generalize World.alloc (World.alloc w _) _ = W0 at ha hc hb ⊢
  have x0 := ha.cell 0; have x1 := ha.cell 1; have x2 := ha.cell 2; have x3 := ha.cell 3; have x4 := ha.cell 4; simp at x0 x1 x2 x3 x4
  have y0 := hc.cell 0; have y1 := hc.cell 1; have y2 := hc.cell 2; have y3 := hc.cell 3; have y4 := hc.cell 4; simp at y0 y1 y2 y3 y4
  go_wp2_with fail
  refine (ref_SameInts _ p2 p4 m c2 m c4 ls ls (ints_then4 H2.out hb) (ints_then4 H4.out hb)).mono ?_
  rw [show (ls == ls) = true by simp]
  rintro e w1 ⟨rfl, ⟨nd, rfl⟩⟩
  replace ha := ha.drewN nd
  replace hc := hc.drewN nd
  replace hb := below_drewN hb nd
  generalize W0.drewN nd = W1 at ha hc hb ⊢
  clear x0 x1 x2 x3 x4 y0 y1 y2 y3 y4
  have x3 : W1.cell? ⟨w.heap.size, 3, none⟩ = some (.slice p1 n c1) := ha.cell 3
  go_wp2_with fail
  go_loopw [5, 45] (fun _ vi wr => ∃ k : Nat, k ≤ n ∧ vi = .int .i64 k ∧ Drawn W1 wr) (fun _ vi _ => n - (intOf vi).toNat)
  case atStart => exact ⟨0, by omega, rfl, Drawn.refl _⟩
  case round =>
    obtain ⟨k, hk, rfl, hd⟩ := hrel
    obtain ⟨W2, rfl⟩ : ∃ W2, W2 = wr := ⟨_, rfl⟩
    obtain ⟨ha2, hc2, hb2⟩ : At W2 w.heap.size (.cells #[.string s, .int .i64 f, .int .i64 c, .slice p1 n c1, .slice p2 m c2] 33) ∧ At W2 (w.heap.size + 1) (.cells #[.string s, .int .i64 f, .int .i64 c, .slice p3 n c3, .slice p4 m c4] 33) ∧ Below w.heap.size w W2 := by
      obtain ⟨nd2, rfl⟩ := hd
      exact ⟨ha.drewN nd2, hc.drewN nd2, below_drewN hb nd2⟩
    have HDR := Lib.hid hd
    clear ha hc hb x3 hd
    by_cases hlt : k < n
    · obtain ⟨b1, o1, rfl, hbB, hcs⟩ := (H1.out.below hb2 (Nat.le_refl _)).open_ (by omega)
      obtain ⟨b3, o3, rfl, hbB3, hcs3⟩ := (H3.out.below hb2 (Nat.le_refl _)).open_ (by omega)
      obtain ⟨sa, fa, ga, k0, k1, k2, hx, _⟩ := hcs k hlt
      obtain ⟨sb, fb, gb, l0, l1, l2, hy, _⟩ := hcs3 k hlt
      rw [hx] at hy
      simp only [Option.some.injEq, Prod.mk.injEq] at hy
      obtain ⟨rfl, rfl, rfl⟩ := hy
      clear hcs hcs3 hx
      have x3 : W2.cell? ⟨w.heap.size, 3, none⟩ = some (.slice (some ⟨b1, o1, none⟩) n c1) := ha2.cell 3
      have y3 : W2.cell? ⟨w.heap.size + 1, 3, none⟩ = some (.slice (some ⟨b3, o3, none⟩) n c3) := hc2.cell 3
      go_wp2_with fail
      go_quiet (fail)
      go_wp2_with fail
      go_roundw
      case rel => exact ⟨k + 1, by omega, by go_num, by first | exact HDR.out.drewN _ | exact HDR.out⟩
      case measure => first | (simp [intOf]; done) | (simp [intOf]; omega)
    · go_wp2_with fail
      go_ret
      exact ⟨by simp, hb2⟩
end Go.Proofs.YtfbmlbenffkpfaaGreatDoor
