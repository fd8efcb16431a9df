/- Contracts of cycle.Full and of the reference's SetAt. -/
import Derived.Test.YtghecclgaaklaaaCycle2
import Derived.Test.YtghecclgaaklaaaMoon
namespace Go.Proofs.Ytghecclgaaklaaa
set_option linter.unusedVariables false
set_option maxRecDepth 100000
open Go.RowKit

/-- The least common multiple of a list, as far as it is not above a milliard. -/
def fullGo : Int → List Int → Int
  | a, [] => a
  | a, x :: l => fullGo (if a ≤ 1000000000 then lcmI a x else a) l
theorem fullGo_cons (a x : Int) (l : List Int) : fullGo a (x :: l) = fullGo (if a ≤ 1000000000 then lcmI a x else a) l := by rw [fullGo.eq_def]
theorem fullGo_big : ∀ (l : List Int) (a : Int), 1000000000 < a → fullGo a l = a
  | [], a, _ => by rw [fullGo]
  | x :: l, a, h => by rw [fullGo_cons, if_neg (by omega)]; exact fullGo_big l a h
def fullOut (xs : List Int) : Value := if fullGo 1 xs ≤ 1000000000 then .tuple #[.int .i64 (fullGo 1 xs), .int .i64 0] else .tuple #[.int .i64 0, .int .i64 14]
theorem lcmI_bound' (a b : Int) (h1 : 1 ≤ a) (h2 : a ≤ 1000000000) (h3 : 1 ≤ b) (h4 : b ≤ 1000) : 1 ≤ lcmI a b ∧ lcmI a b ≤ 1000000000000 := by
  obtain ⟨q1, q2, q3, q4⟩ := quot_pos a b h1 h3
  have g := lcmI_ge a b h1 h3
  refine ⟨by omega, ?_⟩
  unfold lcmI
  have := Int.mul_le_mul h2 (show b / (Int.gcd a b : Int) ≤ 1000 by omega) (by omega) (by omega)
  omega
set_option maxHeartbeats 2000000 in
theorem cycle_Full_ok (w : World) (a1 a2 : Option Addr) (n1 c1 n2 c2 : Nat) (xs ys : List Int) (q : setErr xs ys = 0) (h1 : Ints w w.heap.size a1 n1 xs) (h2 : Ints w w.heap.size a2 n2 ys) :
    Calls Try.prog 31 #[.agg #[.slice a1 n1 c1, .slice a2 n2 c2]] w fun e w' => e = .returned (fullOut xs) ∧ Below w.heap.size w w' := by
  have ok := setOk_of q
  have l1 := h1.1; have l2 := h2.1
  have L1 := Lib.hid l1; have L2 := Lib.hid l2
  have hn8 : n1 ≤ 8 := by have := ok.l2; omega
  clear l1 l2
  have H1 := Lib.hid h1; have H2 := Lib.hid h2; have HQ := Lib.hid q; have OK := Lib.hid ok
  clear h1 h2 q ok
  go_enter Try.func31, Try.ntmps31
  go_wp2_with fail
  refine (cycle_Check _ _ _ _ _ _ _ xs ys ((H1.out.below (below_new (Below.refl _ _) _) (Nat.le_refl _)).more (by simp)) ((H2.out.below (below_new (Below.refl _ _) _) (Nat.le_refl _)).more (by simp))).mono ?_
  rw [HQ.out]
  rintro e w1 ⟨rfl, hb⟩
  have a0 := (At.new w (.cells #[.slice a1 n1 c1, .slice a2 n2 c2] 47)).then_ hb
  have b0 : Below w.heap.size w w1 := by (repeat' (first | exact Below.refl _ _ | assumption | refine Below.drew ?_ | refine below_drewN ?_ _ | refine below_new ?_ _ | refine below_set ?_ ?_ _ | refine below_then ?_ (by assumption) | refine below_drawn ?_ (by assumption) | exact Nat.le_refl _ | omega | (simp; done) | (simp; omega)))
  clear hb
  have d0 := a0.cell 0; have d1 := a0.cell 1; simp at d0 d1
  go_wp2_with fail
  clear d0 d1 a0
  go_loopw [5, 7, 8, 9, 18] (fun t _ _ _ i wr => ∃ (k : Nat) (A : Int), k ≤ n1 ∧ i = .int .i64 k ∧ t = .int .i64 A ∧ 1 ≤ A ∧ A ≤ 1000000000 ∧ fullGo A (xs.drop k) = fullGo 1 xs ∧ Below w.heap.size w wr) (fun _ _ _ _ i _ => n1 - (intOf i).toNat)
  case atStart => exact ⟨0, 1, by omega, rfl, rfl, by omega, by omega, by simp, b0⟩
  case round =>
    clear b0
    obtain ⟨k, A, hk, rfl, rfl, A1, A2, hA, b0⟩ := hrel
    have HA := Lib.hid hA; clear hA
    by_cases hlt : k < n1
    · obtain ⟨e1, o1, x, rfl, hb1, hc1, hx, x1, x2⟩ := (H1.out.below b0 (Nat.le_refl _)).at_ hlt
      have hyl : k < ys.length := by have := OK.out.len; have := L1.out; omega
      obtain ⟨p1, p2, p3, p4⟩ := OK.out.each k x _ hx (List.getElem?_eq_getElem hyl)
      have hdr : xs.drop k = x :: xs.drop (k + 1) := by
        obtain ⟨hl, rfl⟩ := List.getElem?_eq_some_iff.1 hx
        exact List.drop_eq_getElem_cons hl
      have hgo := Lib.hid (show fullGo (lcmI A x) (xs.drop (k + 1)) = fullGo 1 xs by rw [← HA.out, hdr, fullGo_cons, if_pos A2])
      clear hx hdr p3 p4
      obtain ⟨G, hG⟩ : ∃ G, G = (Int.gcd A x : Int) := ⟨_, rfl⟩
      have hq := quot_pos A x A1 p1
      have hg := gcd_pos A x A1
      have hlb := lcmI_bound' A x A1 A2 p1 p2
      have hl : lcmI A x = A * (x / G) := by rw [hG]; rfl
      rw [← hG] at hq hg
      rw [hl] at hlb hgo
      obtain ⟨q1, q2, _, _⟩ := hq
      obtain ⟨lb1, lb2⟩ := hlb
      have hT := whole_Gcd A x wr (by omega) (by omega) (by omega) (by omega)
      rw [gcdOut_den A x p1 (by omega), ← hG] at hT
      have HT := Lib.hid hT; clear hT hl hG
      by_cases hbig : A * (x / G) ≤ 1000000000
      · go_wp2_with fail
        refine (HT.out).mono ?_; rintro e w2 ⟨rfl, hd⟩
        go_wp2_with fail
        go_roundw
        case rel => exact ⟨k + 1, A * (x / G), by omega, by go_num, rfl, lb1, hbig, hgo.out, below_drawn b0 hd⟩
        case measure => simp [intOf]; omega
      · have ho := Lib.hid (show fullOut xs = .tuple #[.int .i64 0, .int .i64 14] by
          have := hgo.out
          rw [fullGo_big _ _ (by omega)] at this
          rw [fullOut, if_neg (by omega)])
        go_wp2_with fail
        refine (HT.out).mono ?_; rintro e w2 ⟨rfl, hd⟩
        go_wp2_with fail
        go_ret2
        exact ⟨by rw [ho.out]; rfl, below_drawn b0 hd⟩
    · have ho := Lib.hid (show fullOut xs = .tuple #[.int .i64 A, .int .i64 0] by
        have h := HA.out
        rw [List.drop_eq_nil_of_le (by have := L1.out; omega), fullGo] at h
        rw [fullOut, if_pos (by omega), ← h])
      go_wp2_with fail
      go_ret2
      exact ⟨by rw [ho.out]; rfl, b0⟩
end Go.Proofs.Ytghecclgaaklaaa
