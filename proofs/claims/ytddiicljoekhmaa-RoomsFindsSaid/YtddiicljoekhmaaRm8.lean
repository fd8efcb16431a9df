/- The law's plain list of bookings: overlaps; two lists that read alike. -/
import Derived.Test.YtddiicljoekhmaaRm7
namespace Go.Proofs.Ytddiicljoekhmaa
set_option linter.unusedVariables false
set_option maxRecDepth 100000
open Go.RowKit

def lapR (r : ByteArray) (f t : Int) (x : Bkg) : Bool := decide (x.1 = r) && lapB f t x
set_option maxHeartbeats 4000000 in
theorem books_overlaps (w : World) (b : Nat) (a : Option Addr) (n c : Nat) (xs : List Bkg) (r : ByteArray) (f t : Int) (hbl : b < w.heap.size) (hbc : w.cell? ⟨b, 0, none⟩ = some (.slice a n c)) (h : Bkgs w w.heap.size a n xs) :
    Calls Try.prog 18 #[.pointer (some ⟨b, 0, none⟩), .string r, .int .i64 f, .int .i64 t] w fun e w' => e = .returned (.bool (xs.any (lapR r f t))) ∧ Below w.heap.size w w' := by
  have L1 := Lib.hid h.len
  have m1 := h.max
  have H := Lib.hid h; clear h
  go_enter Try.func18, Try.ntmps18
  go_wp2_with fail
  clear hbc
  go_loopw [10, 16] (fun _ vi wr => ∃ k : Nat, k ≤ n ∧ vi = .int .i64 k ∧ (xs.drop k).any (lapR r f t) = xs.any (lapR r f t) ∧ Below w.heap.size w wr) (fun _ vi _ => n - (intOf vi).toNat)
  case atStart => exact ⟨0, by omega, rfl, rfl, Below.refl _ _⟩
  case round =>
    obtain ⟨k, hk, rfl, hany, hb⟩ := hrel
    have HA := Lib.hid hany; clear hany
    by_cases hlt : k < n
    · obtain ⟨b1, o1, rfl, hbB, hcs⟩ := (H.out.below hb (Nat.le_refl _)).open_ (by omega)
      obtain ⟨r', f', t', x', k0, k1, k2, k3, hx, _⟩ := hcs k hlt
      have HN := Lib.hid (show (lapR r f t (r', f', t', x') || (xs.drop (k + 1)).any (lapR r f t)) = xs.any (lapR r f t) by rw [← HA.out, drop_row hx, List.any_cons])
      have HB := Lib.hid (below_new hb (.cells #[.string r', .int .i64 f', .int .i64 t', .string x'] 39))
      have HV := Lib.hid (show lapR r f t (r', f', t', x') = (decide (r' = r) && (decide (f' < t) && decide (f < t'))) from rfl)
      clear hcs hx HA hb
      by_cases h1 : r' = r
      · have e1 : (r'.toList == r.toList) = true := by simp [h1]
        by_cases h2 : f' < t
        · by_cases h3 : f < t'
          · have HT := Lib.hid (show xs.any (lapR r f t) = true by rw [← HN.out, HV.out, decide_eq_true h1, decide_eq_true h2, decide_eq_true h3]; rfl)
            clear HN HV h1
            go_wp2_with fail
            go_ret
            exact ⟨ret_bool HT.out.symm, HB.out⟩
          · have HT := Lib.hid (show (xs.drop (k + 1)).any (lapR r f t) = xs.any (lapR r f t) by rw [← HN.out, HV.out, decide_eq_false h3]; simp)
            clear HN HV h1
            go_wp2_with fail
            go_roundw
            case rel => exact ⟨k + 1, by omega, by go_num, HT.out, HB.out⟩
            case measure => first | (simp [intOf]; done) | (simp [intOf]; omega)
        · have HT := Lib.hid (show (xs.drop (k + 1)).any (lapR r f t) = xs.any (lapR r f t) by rw [← HN.out, HV.out, decide_eq_false h2]; simp)
          clear HN HV h1
          go_wp2_with fail
          go_roundw
          case rel => exact ⟨k + 1, by omega, by go_num, HT.out, HB.out⟩
          case measure => first | (simp [intOf]; done) | (simp [intOf]; omega)
      · have e1 : (r'.toList == r.toList) = false := by rw [beq_eq_false_iff_ne]; exact fun e => h1 (toList_backR e)
        have HT := Lib.hid (show (xs.drop (k + 1)).any (lapR r f t) = xs.any (lapR r f t) by rw [← HN.out, HV.out, decide_eq_false h1]; simp)
        clear HN HV h1
        go_wp2_with fail
        go_roundw
        case rel => exact ⟨k + 1, by omega, by go_num, HT.out, HB.out⟩
        case measure => first | (simp [intOf]; done) | (simp [intOf]; omega)
    · have HE := Lib.hid (show xs.any (lapR r f t) = false by rw [← HA.out, List.drop_eq_nil_of_le (by have := L1.out; omega)]; rfl)
      go_wp2_with fail
      go_ret
      exact ⟨ret_bool HE.out.symm, hb⟩
set_option maxHeartbeats 2000000 in
theorem law_sameBookings (w : World) (p1 p2 : Option Addr) (n c1 c2 : Nat) (xs : List Bkg) (h1 : Bkgs w w.heap.size p1 n xs) (h2 : Bkgs w w.heap.size p2 n xs) :
    Calls Try.prog 20 #[.slice p1 n c1, .slice p2 n c2] w fun e w' => e = .returned (.bool true) ∧ Below w.heap.size w w' := by
  have mx := h1.max
  have H1 := Lib.hid h1; have H2 := Lib.hid h2; clear h1 h2
  go_enter Try.func20, Try.ntmps20
  go_wp2_with fail
  go_loopw [5, 13] (fun _ vi wr => ∃ k : Nat, k ≤ n ∧ vi = .int .i64 k ∧ Drawn w wr) (fun _ vi _ => n - (intOf vi).toNat)
  case atStart => exact ⟨0, by omega, rfl, Drawn.refl _⟩
  case round =>
    obtain ⟨k, hk, rfl, hd⟩ := hrel
    obtain ⟨W2, rfl⟩ : ∃ W2, W2 = wr := ⟨_, rfl⟩
    have hb2 : Below w.heap.size w W2 := by obtain ⟨nd2, rfl⟩ := hd; exact below_drewN (Below.refl _ _) nd2
    have HDR := Lib.hid hd; clear hd
    by_cases hlt : k < n
    · obtain ⟨b1, o1, rfl, hbB, hcs⟩ := (H1.out.below hb2 (Nat.le_refl _)).open_ (by omega)
      obtain ⟨b3, o3, rfl, hbB3, hcs3⟩ := (H2.out.below hb2 (Nat.le_refl _)).open_ (by omega)
      obtain ⟨ra, fa, ga, wa, k0, k1, k2, k3, hx, _⟩ := hcs k hlt
      obtain ⟨rb, fb, gb, wb, l0, l1, l2, l3, hy, _⟩ := hcs3 k hlt
      rw [hx] at hy
      simp only [Option.some.injEq, Prod.mk.injEq] at hy
      obtain ⟨rfl, rfl, rfl, rfl⟩ := hy
      clear hcs hcs3 hx
      go_wp2_with fail
      go_quiet (fail)
      go_wp2_with fail
      go_roundw
      case rel => exact ⟨k + 1, by omega, by go_num, by first | exact HDR.out.drewN _ | exact HDR.out⟩
      case measure => first | (simp [intOf]; done) | (simp [intOf]; omega)
    · go_wp2_with fail
      go_ret
      exact ⟨by simp, hb2⟩
end Go.Proofs.Ytddiicljoekhmaa
