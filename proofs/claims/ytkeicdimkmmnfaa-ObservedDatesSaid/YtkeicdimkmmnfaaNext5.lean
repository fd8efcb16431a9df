/- Contract of the search's next. -/
import Derived.Test.YtkeicdimkmmnfaaNext4
namespace Go.Proofs.Ytkeicdimkmmnfaa
set_option linter.unusedVariables false
set_option maxRecDepth 100000
open Go.RowKit

/-- What next returns. -/
def NextOut (n : Nat) (xs ys zs : List Int) (day : Int) (e : Ending) : Prop :=
  (∃ d, day ≤ d ∧ d ≤ 4000000 ∧ Fits xs ys zs n d ∧ (∀ d', day ≤ d' → d' < d → ¬ Fits xs ys zs n d') ∧ e = .returned (.tuple #[.int .i64 d, .bool true])) ∨
  ((∀ d', day ≤ d' → d' ≤ 4000000 → ¬ Fits xs ys zs n d') ∧ e = .returned (.tuple #[.int .i64 0, .bool false]))
set_option maxHeartbeats 2000000 in
theorem cycle_next (w : World) (a1 a2 a3 : Option Addr) (n c1 c2 c3 : Nat) (xs ys zs : List Int) (u : Nat) (a m day : Int) (hu : u ≤ n) (hj : Joint xs ys zs u a m) (hm : m ≤ 8000000000) (d1 : -4000000 ≤ day) (d2 : day ≤ 4000001) (ok : SetOk xs ys) (hl : zs.length = xs.length) (hp : plaAll xs zs = true) (h1 : Ints w w.heap.size a1 n xs) (h2 : Ints w w.heap.size a2 n ys) (h3 : Ints w w.heap.size a3 n zs) :
    Calls Try.prog 60 #[.agg #[.slice a1 n c1, .slice a2 n c2, .slice a3 n c3, .int .i64 a, .int .i64 m, .int .i64 u], .int .i64 day] w fun e w' => NextOut n xs ys zs day e ∧ Below w.heap.size w w' := by
  have hn8 : n ≤ 8 := by have := ok.l2; have := h1.1; omega
  have j1 := hj.pos; have j2 := hj.lo; have j3 := hj.hi
  obtain ⟨f1, f2, f3⟩ := first_of_class day a m j1
  have r1 := Int.emod_nonneg (a - day) (show m ≠ 0 by omega)
  have r2 := Int.emod_lt_of_pos (a - day) (show 0 < m by omega)
  have HF := Lib.hid (show ∀ d', day ≤ d' → d' < day + (a - day) % m → ¬ Fits xs ys zs n d' from fun d' q1 q2 q3 => by
    have := f3 d' q1 ((hj.iff d').1 (fits_mono hu q3)); omega)
  have HC := Lib.hid f2
  clear f2 f3
  have t0 : IntKind.i64.wrap (a - day) = a - day := IntWalk.i64_in _ (by omega)
  have t1 : IntKind.i64.wrap (day + (a - day) % m) = day + (a - day) % m := IntWalk.i64_in _ (by omega)
  have HJ := Lib.hid hj; have H1 := Lib.hid h1; have H2 := Lib.hid h2; have H3 := Lib.hid h3; have OK := Lib.hid ok; have HP := Lib.hid hp; have HL := Lib.hid hl
  clear hj h1 h2 h3 ok hp hl
  go_enter Try.func60, Try.ntmps60
  go_wp2_with fail
  refine (whole_Mod _ _ _ (by omega) (by omega) (by omega) (by omega)).mono ?_
  rintro e w2 ⟨rfl, hd2⟩
  go_wp2_with fail
  have a0 := (At.new w (.cells #[.slice a1 n c1, .slice a2 n c2, .slice a3 n c3, .int .i64 a, .int .i64 m, .int .i64 u] 107)).drawn hd2
  have b0 := below_drawn (below_new (Below.refl w.heap.size w) (.cells #[.slice a1 n c1, .slice a2 n c2, .slice a3 n c3, .int .i64 a, .int .i64 m, .int .i64 u] 107)) hd2
  clear hd2
  go_loopw [6, 7, 8] (fun d _ _ wr => ∃ D : Int, d = .int .i64 D ∧ day ≤ D ∧ D ≤ 8010000000 ∧ m ∣ D - a ∧ (∀ d', day ≤ d' → d' < D → ¬ Fits xs ys zs n d') ∧ At wr w.heap.size (.cells #[.slice a1 n c1, .slice a2 n c2, .slice a3 n c3, .int .i64 a, .int .i64 m, .int .i64 u] 107) ∧ Below w.heap.size w wr) (fun d _ _ _ => (4000001 - intOf d).toNat)
  case atStart => exact ⟨_, rfl, f1, by omega, HC.out, HF.out, a0, b0⟩
  case round =>
    clear a0 b0
    obtain ⟨D, rfl, e1, e2, hc, hf, a0, b0⟩ := hrel
    have HC' := Lib.hid hc; have HF' := Lib.hid hf; clear hc hf
    have s0 := a0.cell 0; have s1 := a0.cell 1; have s2 := a0.cell 2; have s3 := a0.cell 3; have s4 := a0.cell 4; have s5 := a0.cell 5; simp at s0 s1 s2 s3 s4 s5
    by_cases hD : D ≤ 4000000
    · have hin := inB_yes (show -4000000 ≤ D by omega) hD
      go_wp2_with fail
      refine (line_Is _ _).mono ?_; rw [hin]; rintro e w3 ⟨rfl, rfl⟩
      go_wp2_with fail
      go_loopw [7, 8] (fun b i wr' => ∃ (k : Nat) (B : Bool), u ≤ k ∧ k ≤ n ∧ i = .int .i64 k ∧ b = .bool B ∧ (B = true ↔ Fits xs ys zs k D) ∧ At wr' w.heap.size (.cells #[.slice a1 n c1, .slice a2 n c2, .slice a3 n c3, .int .i64 a, .int .i64 m, .int .i64 u] 107) ∧ Below w.heap.size w wr') (fun _ i _ => n - (intOf i).toNat)
      case atStart => exact ⟨u, true, by omega, by omega, rfl, rfl, ⟨fun _ => (HJ.out.iff D).2 HC'.out, fun _ => rfl⟩, a0, b0⟩
      case round =>
        clear a0 b0 s0 s1 s2 s3 s4 s5
        obtain ⟨k, B, k1, k2, rfl, rfl, hB, a0, b0⟩ := hrel
        have HB := Lib.hid hB; clear hB
        have s0 := a0.cell 0; have s1 := a0.cell 1; have s2 := a0.cell 2; have s3 := a0.cell 3; have s4 := a0.cell 4; have s5 := a0.cell 5; simp at s0 s1 s2 s3 s4 s5
        by_cases hlt : k < n
        · obtain ⟨g1, o1, x, rfl, hb1, hc1, hx, x1, x2⟩ := (H1.out.below b0 (Nat.le_refl _)).at_ hlt
          obtain ⟨g2, o2, y, rfl, hb2, hc2, hy, y1, y2⟩ := (H2.out.below b0 (Nat.le_refl _)).at_ hlt
          obtain ⟨g3, o3, z, rfl, hb3, hc3, hz, z1, z2⟩ := (H3.out.below b0 (Nat.le_refl _)).at_ hlt
          obtain ⟨p1, p2, p3, p4⟩ := OK.out.each k x y hx hy
          have HS := Lib.hid (fits_snoc (d := D) hx hy hz)
          have t2 : IntKind.i64.wrap (D + y) = D + y := IntWalk.i64_in _ (by omega)
          have t3 : IntKind.i64.wrap ((k : Int) + 1) = (k : Int) + 1 := IntWalk.i64_in _ (by omega)
          clear hx hy hz
          cases B
          case false =>
            go_wp2_with fail
            go_quiet (fail)
            go_wp2_with fail
            go_roundw
            case rel => exact ⟨k + 1, false, by omega, by omega, by go_num, rfl, ⟨fun h => absurd h (by simp), fun h => HB.out.2 (HS.out.1 h).1⟩, a0.drewN _, below_drewN b0 _⟩
            case measure => simp [intOf]; omega
          case true =>
            go_wp2_with fail
            go_quiet ((go_at_call 100; exact Calls.quiet_of (whole_Mod _ _ _ (by omega) (by omega) (by omega) (by omega))))
            go_wp2_with fail
            go_roundw
            case rel => exact ⟨k + 1, _, by omega, by omega, by go_num, rfl, by rw [HS.out, ← HB.out]; simp, a0.drewN _, below_drewN b0 _⟩
            case measure => simp [intOf]; omega
        · obtain rfl : k = n := by omega
          cases B
          case true =>
            go_wp2_with fail
            go_ret2
            exact ⟨Or.inl ⟨D, e1, hD, HB.out.1 (by simp), HF'.out, rfl⟩, b0⟩
          case false =>
            have HN := Lib.hid (show ¬ Fits xs ys zs k D from fun h => by have := HB.out.2 h; simp at this)
            have t4 : IntKind.i64.wrap (D + m) = D + m := IntWalk.i64_in _ (by omega)
            go_wp2_with fail
            go_roundw
            case rel =>
              refine ⟨D + m, by go_num, by omega, by omega, ?_, fun d' q1 q2 q3 => ?_, a0, b0⟩
              · have : D + m - a = (D - a) + m := by omega
                rw [this]; exact Int.dvd_add HC'.out (Int.dvd_refl m)
              · by_cases q4 : d' < D
                · exact HF'.out d' q1 q4 q3
                · by_cases q5 : d' = D
                  · subst q5; exact HN.out q3
                  · have := next_of_class D d' a m j1 HC'.out ((HJ.out.iff d').1 (fits_mono hu q3)) (by omega)
                    omega
            case measure => simp [intOf]; omega
    · have hin : inB (-4000000) 4000000 D = false := inB_no (by omega)
      go_wp2_with fail
      refine (line_Is _ _).mono ?_; rw [hin]; rintro e w3 ⟨rfl, rfl⟩
      go_wp2_with fail
      go_ret2
      exact ⟨Or.inr ⟨fun d' q1 q2 => HF'.out d' q1 (by omega), rfl⟩, b0⟩
end Go.Proofs.Ytkeicdimkmmnfaa
