/- Contracts of cycle.Of, cycle.Full and of the reference's SameInts, SetAt. -/
import Derived.Test.YtdmkghgachapaaaCycle
import Derived.Test.YtdmkghgachapaaaLine
import Derived.Test.YtdmkghgachapaaaOwn
namespace Go.Proofs.Ytdmkghgachapaaa
set_option linter.unusedVariables false
set_option maxRecDepth 100000
open Go.RowKit

theorem cycAll_at : ∀ (xs ys : List Int), cycAll xs ys = true → ∀ (k : Nat) (x y : Int), xs[k]? = some x → ys[k]? = some y → cycOk x y = true
  | [], _, _, k, x, y, hx, _ => by simp at hx
  | a :: xs, [], _, k, x, y, _, hy => by simp at hy
  | a :: xs, b :: ys, h, 0, x, y, hx, hy => by
    simp only [cycAll, Bool.and_eq_true] at h
    simp at hx hy; subst hx hy; exact h.1
  | a :: xs, b :: ys, h, k + 1, x, y, hx, hy => by
    simp only [cycAll, Bool.and_eq_true] at h
    exact cycAll_at xs ys h.2 k x y (by simpa using hx) (by simpa using hy)
/-- A set of cycles without error. -/
structure SetOk (xs ys : List Int) : Prop where
  l1 : 1 ≤ xs.length
  l2 : xs.length ≤ 8
  len : ys.length = xs.length
  each : ∀ (k : Nat) (x y : Int), xs[k]? = some x → ys[k]? = some y → 1 ≤ x ∧ x ≤ 1000 ∧ 0 ≤ y ∧ y < x
theorem setOk_of {xs ys : List Int} (h : setErr xs ys = 0) : SetOk xs ys := by
  unfold setErr at h
  by_cases h1 : ¬ (1 ≤ xs.length ∧ xs.length ≤ 8)
  · rw [if_pos h1] at h; omega
  · rw [if_neg h1] at h
    by_cases h2 : ys.length ≠ xs.length
    · rw [if_pos h2] at h; omega
    · rw [if_neg h2] at h
      by_cases h3 : cycAll xs ys = true
      · refine ⟨by omega, by omega, by omega, fun k x y hx hy => ?_⟩
        have := cycAll_at xs ys h3 k x y hx hy
        simpa [cycOk] using this
      · rw [if_neg h3] at h; omega
/-- The places of a day. -/
def places (d : Int) : List Int → List Int → List Int
  | x :: xs, y :: ys => (d + y) % x :: places d xs ys
  | _, _ => []
theorem places_snoc (d : Int) : ∀ (k : Nat) (xs ys : List Int) (x y : Int), xs[k]? = some x → ys[k]? = some y → places d (xs.take (k + 1)) (ys.take (k + 1)) = places d (xs.take k) (ys.take k) ++ [(d + y) % x]
  | 0, x' :: xs, y' :: ys, x, y, hx, hy => by
    simp at hx hy; subst hx hy; simp [places]
  | k + 1, x' :: xs, y' :: ys, x, y, hx, hy => by
    have ih := places_snoc d k xs ys x y (by simpa using hx) (by simpa using hy)
    rw [List.take_succ_cons, List.take_succ_cons, List.take_succ_cons, List.take_succ_cons]
    simp only [places, ih, List.cons_append]
theorem places_len (d : Int) : ∀ (xs ys : List Int), ys.length = xs.length → (places d xs ys).length = xs.length
  | [], _, _ => by simp [places]
  | x :: xs, [], h => by simp at h
  | x :: xs, y :: ys, h => by simp [places, places_len d xs ys (by simpa using h)]
theorem places_at (d : Int) : ∀ (k : Nat) (xs ys : List Int) (x y : Int), xs[k]? = some x → ys[k]? = some y → (places d xs ys)[k]? = some ((d + y) % x)
  | 0, x' :: xs, y' :: ys, x, y, hx, hy => by simp at hx hy; subst hx hy; simp [places]
  | k + 1, x' :: xs, y' :: ys, x, y, hx, hy => by
    have ih := places_at d k xs ys x y (by simpa using hx) (by simpa using hy)
    simpa [places] using ih
theorem ref_SameInts (w : World) (a b : Option Addr) (n c m e : Nat) (xs ys : List Int) (h1 : Ints w w.heap.size a n xs) (h2 : Ints w w.heap.size b m ys) :
    Calls Try.prog 6 #[.slice a n c, .slice b m e] w fun e w' => e = .returned (.bool (xs == ys)) ∧ Drawn w w' := by
  have l1 := h1.1; have l2 := h2.1
  have m1 := h1.2.1; have m2 := h2.2.1
  by_cases hne : n ≠ m
  · have ho := Lib.hid (show (xs == ys) = false by rw [beq_eq_false_iff_ne]; rintro rfl; omega)
    have hb : ((n : Int) != (m : Int)) = true := by simp; omega
    clear h1 h2 l1 l2 hne
    go_enter Try.func6, Try.ntmps6
    go_wp2_with fail
    go_ret
    exact ⟨ret_bool (by rw [ho.out]), Drawn.refl _⟩
  obtain rfl : n = m := by omega
  have H1 := Lib.hid h1; have H2 := Lib.hid h2; have L1 := Lib.hid l1; have L2 := Lib.hid l2
  clear h1 h2 l1 l2 hne
  go_enter Try.func6, Try.ntmps6
  go_wp2_with fail
  go_loopw [5, 13] (fun _ i wr => ∃ k : Nat, k ≤ n ∧ i = .int .i64 k ∧ (∀ j, j < k → xs[j]? = ys[j]?) ∧ Drawn w wr) (fun _ i _ => n - (intOf i).toNat)
  case atStart => exact ⟨0, by omega, rfl, fun j h => by omega, Drawn.refl _⟩
  case round =>
    obtain ⟨k, hk, rfl, hall, hd⟩ := hrel
    have HA := Lib.hid hall; clear hall
    obtain ⟨nd, rfl⟩ := hd
    by_cases hlt : k < n
    · obtain ⟨b1, o1, x, rfl, hb1, hc1, hx, x1, x2⟩ := H1.out.at_ hlt
      obtain ⟨b2, o2, y, rfl, hb2, hc2, hy, y1, y2⟩ := H2.out.at_ hlt
      have HX := Lib.hid hx; have HY := Lib.hid hy; clear hx hy
      by_cases hxy : x = y
      · have hb : (x != y) = false := by simpa using hxy
        have hnx := Lib.hid (show ∀ j, j < k + 1 → xs[j]? = ys[j]? from fun j hj => by
          by_cases hjk : j = k
          · subst hjk; rw [HX.out, HY.out, hxy]
          · exact HA.out j (by omega))
        clear hxy
        go_wp2_with fail
        go_quiet (fail)
        go_wp2_with fail
        go_roundw
        case rel => exact ⟨k + 1, by omega, by go_num, hnx.out, by (repeat' (first | exact Drawn.refl _ | assumption | refine Drawn.drew ?_ | refine Drawn.drewN ?_ _ | exact ⟨_, rfl⟩))⟩
        case measure => simp [intOf]; omega
      · have hb : (x != y) = true := by simpa using hxy
        have ho := Lib.hid (show (xs == ys) = false by
          rw [beq_eq_false_iff_ne]; rintro rfl
          have := HX.out.symm.trans HY.out
          injection this with this; exact hxy this)
        clear hxy
        go_wp2_with fail
        go_quiet (fail)
        go_wp2_with fail
        go_ret
        exact ⟨ret_bool (by rw [ho.out]), by (repeat' (first | exact Drawn.refl _ | assumption | refine Drawn.drew ?_ | refine Drawn.drewN ?_ _ | exact ⟨_, rfl⟩))⟩
    · have ho := Lib.hid (show (xs == ys) = true by
        rw [beq_iff_eq]
        apply List.ext_getElem?
        intro j
        by_cases hj : j < k
        · exact HA.out j hj
        · rw [List.getElem?_eq_none (by have := L1.out; omega), List.getElem?_eq_none (by have := L2.out; omega)])
      go_wp2_with fail
      go_ret
      exact ⟨ret_bool (by rw [ho.out]), by (repeat' (first | exact Drawn.refl _ | assumption | refine Drawn.drew ?_ | refine Drawn.drewN ?_ _ | exact ⟨_, rfl⟩))⟩
theorem Try.infoInt' : (Try.prog.info? 3).map (fun i => (i.zero, i.size, i.bytes)) = some (some (.int .i64 0), 1, 8) := by kernel_rfl
theorem own_drawn {w w' : World} {base : Nat} {e : TypeId} {size : Nat} {v : Value} {n : Nat} {xs : List Value} (h : w.ownsRow base e size v n xs) (d : Drawn w w') : w'.ownsRow base e size v n xs := by
  obtain ⟨m, rfl⟩ := d; exact h
theorem own_above {w : World} {base : Nat} {e : TypeId} {size : Nat} {v : Value} {n : Nat} {xs : List Value} (h : w.ownsRow base e size v n xs) {b : Nat} (hb : b < base) : some b ≠ v.ownBlock := by
  rcases h.2 with ⟨rfl, _⟩ | ⟨g, cap, cur, rfl, hg, _⟩
  · simp [Value.ownBlock]
  · simp [Value.ownBlock]; omega
theorem At.grown' {w w' : World} {b : Nat} {o : Obj} {row : Option Nat} (h : At w b o) (hg : w.grownBy w' row) (hne : some b ≠ row) : At w' b o := (hg.block b h.lt hne).trans h
/-- What cycle.Of leaves. -/
def OfOut (w : World) (n : Nat) (zs : List Int) (e : Ending) (w' : World) : Prop := ∃ a c, e = .returned (.tuple #[.slice a n c, .int .i64 0]) ∧ Ints w' w'.heap.size a n zs ∧ Below w.heap.size w w'
end Go.Proofs.Ytdmkghgachapaaa
