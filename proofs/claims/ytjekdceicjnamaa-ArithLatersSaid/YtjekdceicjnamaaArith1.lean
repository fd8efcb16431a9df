/- Contracts of compile.Lengths, compile.Total and of arith's inner functions place, leap, length, newYear, check, isYear. -/
import Derived.Test.YtjekdceicjnamaaSearch
namespace Go.Proofs.Ytjekdceicjnamaa
set_option linter.unusedVariables false
set_option maxRecDepth 100000
open Go.RowKit

/-- A calendar's months and leap years in memory. -/
def CalAt (w : World) (a1 a2 : Option Addr) (n1 n2 : Nat) (ms : List Mon) (ls : List Int) : Prop := Months w w.heap.size a1 n1 ms ∧ Ints w w.heap.size a2 n2 ls
theorem CalAt.then_ {w w' : World} {a1 a2 : Option Addr} {n1 n2 : Nat} {ms : List Mon} {ls : List Int} (h : CalAt w a1 a2 n1 n2 ms ls) (hb : Below w.heap.size w w') : CalAt w' a1 a2 n1 n2 ms ls :=
  ⟨(h.1.below hb (Nat.le_refl _)).more hb.size, (h.2.below hb (Nat.le_refl _)).more hb.size⟩
theorem CalAt.alloc {w : World} {a1 a2 : Option Addr} {n1 n2 : Nat} {ms : List Mon} {ls : List Int} (h : CalAt w a1 a2 n1 n2 ms ls) (o : Obj) : CalAt (w.alloc o) a1 a2 n1 n2 ms ls := h.then_ (below_new (Below.refl _ _) o)

set_option maxHeartbeats 1000000 in
theorem compile_Lengths (w : World) (s : ByteArray) (f c : Int) (a1 a2 : Option Addr) (n1 c1 n2 c2 : Nat) (ms : List Mon) (ls : List Int) (hm : n1 ≤ 20) (hl : ∀ x ∈ ms, 0 ≤ x.2.1 ∧ x.2.1 ≤ 400 ∧ 0 ≤ x.2.2 ∧ x.2.2 ≤ 400) (h : CalAt w a1 a2 n1 n2 ms ls) :
    Calls Try.prog 103 #[.agg #[.string s, .int .i64 f, .int .i64 c, .slice a1 n1 c1, .slice a2 n2 c2]] w fun e w' => e = .returned (.tuple #[.int .i64 (shortOf ms), .int .i64 (longOf ms)]) ∧ Below w.heap.size w w' := by
  have L1 := Lib.hid h.1.len
  have H := Lib.hid h; have HL := Lib.hid hl; clear h hl
  go_enter Try.func103, Try.ntmps103
  go_wp2_with fail
  go_loopw [4, 5, 7, 11] (fun p q _ i wr => ∃ k : Nat, k ≤ n1 ∧ i = .int .i64 k ∧ p = .int .i64 (shortOf (ms.take k)) ∧ q = .int .i64 (longOf (ms.take k)) ∧ Below w.heap.size w wr) (fun _ _ _ i _ => n1 - (intOf i).toNat)
  case atStart => exact ⟨0, by omega, rfl, by simp [shortOf], by simp [longOf], by (repeat' (first | exact Below.refl _ _ | assumption | refine Below.drew ?_ | refine below_drewN ?_ _ | refine below_new ?_ _ | refine below_set ?_ ?_ _ | refine below_then ?_ (by assumption) | refine below_drawn ?_ (by assumption) | exact Nat.le_refl _ | omega | (simp; done) | (simp; omega)))⟩
  case round =>
    obtain ⟨k, hk, rfl, rfl, rfl, hb⟩ := hrel
    obtain ⟨A1, A2, B1, B2⟩ := sums_bound (ms.take k) fun x hx => HL.out x (List.mem_of_mem_take hx)
    rw [List.length_take, L1.out] at A2 B2
    have A3 : shortOf (ms.take k) ≤ 8000 := by omega
    have B3 : longOf (ms.take k) ≤ 8000 := by omega
    clear A2 B2
    by_cases hlt : k < n1
    · obtain ⟨b, off, rfl, hbB, hcs⟩ := (H.out.1.below hb (Nat.le_refl _)).open_ (by omega)
      obtain ⟨t, p, q, c0, c3, c4, hx, hs, f1, f2, g1, g2⟩ := hcs k hlt
      have e1 := Lib.hid (show shortOf (ms.take (k + 1)) = shortOf (ms.take k) + p by rw [take_one hx, shortOf_snoc])
      have e2 := Lib.hid (show longOf (ms.take (k + 1)) = longOf (ms.take k) + q by rw [take_one hx, longOf_snoc])
      obtain ⟨b1, b2, b3, b4⟩ := HL.out _ (List.mem_of_getElem? hx)
      simp only at b1 b2 b3 b4
      clear hcs hx
      have hz := hb.size
      have hbz : b < wr.heap.size := by omega
      generalize shortOf (ms.take k) = A at *
      generalize longOf (ms.take k) = B at *
      have t1 : IntKind.i64.wrap (A + p) = A + p := IntWalk.i64_in _ (by omega)
      have t2 : IntKind.i64.wrap (B + q) = B + q := IntWalk.i64_in _ (by omega)
      go_wp2_with fail
      go_quiet (fail)
      go_wp2_with fail
      go_roundw
      case rel => exact ⟨k + 1, by omega, by go_num, by rw [e1.out], by rw [e2.out], by (repeat' (first | exact Below.refl _ _ | assumption | refine Below.drew ?_ | refine below_drewN ?_ _ | refine below_new ?_ _ | refine below_set ?_ ?_ _ | refine below_then ?_ (by assumption) | refine below_drawn ?_ (by assumption) | exact Nat.le_refl _ | omega | (simp; done) | (simp; omega)))⟩
      case measure => simp [intOf]; omega
    · have hkn : k = n1 := by omega
      subst hkn
      have e : ms.take k = ms := List.take_of_length_le (by rw [L1.out]; exact Nat.le_refl _)
      rw [e] at A1 A3 B1 B3 ⊢
      go_wp2_with fail
      go_ret2
      exact ⟨rfl, hb⟩

theorem total_eq (s : ByteArray) (f c : Int) (ms : List Mon) (ls : List Int) (h : CalOk s f c ms ls) : (c - (ls.length : Int)) * shortOf ms + (ls.length : Int) * longOf ms = daysTo (shortOf ms) (longOf ms) ls c := by
  unfold daysTo
  rw [h.count.1, Int.sub_mul, Int.mul_sub]
  omega
theorem mul_bound (a b A B : Int) (h1 : 0 ≤ a) (h2 : a ≤ A) (h3 : 0 ≤ b) (h4 : b ≤ B) : 0 ≤ a * b ∧ a * b ≤ A * B :=
  ⟨Int.mul_nonneg h1 h3, Int.mul_le_mul h2 h4 h3 (by omega)⟩
/-- What compile.Total hands back. -/
def totalOut (s : ByteArray) (f c : Int) (ms : List Mon) (ls : List Int) : Value := if calErr s f c ms ls ≠ 0 then .tuple #[.int .i64 0, .int .i64 (calErr s f c ms ls)] else .tuple #[.int .i64 (daysTo (shortOf ms) (longOf ms) ls c), .int .i64 0]
end Go.Proofs.Ytjekdceicjnamaa
