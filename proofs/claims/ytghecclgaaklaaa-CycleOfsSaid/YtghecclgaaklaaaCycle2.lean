/- Contracts of cycle.Of, cycle.Full and of the reference's SameInts, SetAt. -/
import Derived.Test.YtghecclgaaklaaaCycle
import Derived.Test.YtghecclgaaklaaaLine
import Derived.Test.YtghecclgaaklaaaOwn
namespace Go.Proofs.Ytghecclgaaklaaa
set_option linter.unusedVariables false
set_option maxRecDepth 100000
open Go.RowKit

theorem cycAll_at : ∀ (xs ys : List Int), cycAll xs ys = true → ∀ (k : Nat) (x y : Int), xs[k]? = some x → ys[k]? = some y → cycOk x y = true
  | [], _, _, k, x, y, hx, _ => by simp at hx
  | a :: xs, [], _, k, x, y, _, hy => by simp at hy
  | a :: xs, b :: ys, h, 0, x, y, hx, hy => by
    simp only [cycAll, Bool.and_eq_true] at h
    simp at hx hy; subst hx hy; exact h.1
  | a :: xs, b :: ys, h, k + 1, x, y, hx, hy => by
    simp only [cycAll, Bool.and_eq_true] at h
    exact cycAll_at xs ys h.2 k x y (by simpa using hx) (by simpa using hy)
/-- A set of cycles without error. -/
structure SetOk (xs ys : List Int) : Prop where
  l1 : 1 ≤ xs.length
  l2 : xs.length ≤ 8
  len : ys.length = xs.length
  each : ∀ (k : Nat) (x y : Int), xs[k]? = some x → ys[k]? = some y → 1 ≤ x ∧ x ≤ 1000 ∧ 0 ≤ y ∧ y < x
theorem setOk_of {xs ys : List Int} (h : setErr xs ys = 0) : SetOk xs ys := by
  unfold setErr at h
  by_cases h1 : ¬ (1 ≤ xs.length ∧ xs.length ≤ 8)
  · rw [if_pos h1] at h; omega
  · rw [if_neg h1] at h
    by_cases h2 : ys.length ≠ xs.length
    · rw [if_pos h2] at h; omega
    · rw [if_neg h2] at h
      by_cases h3 : cycAll xs ys = true
      · refine ⟨by omega, by omega, by omega, fun k x y hx hy => ?_⟩
        have := cycAll_at xs ys h3 k x y hx hy
        simpa [cycOk] using this
      · rw [if_neg h3] at h; omega
/-- The places of a day. -/
def places (d : Int) : List Int → List Int → List Int
  | x :: xs, y :: ys => (d + y) % x :: places d xs ys
  | _, _ => []
theorem places_snoc (d : Int) : ∀ (k : Nat) (xs ys : List Int) (x y : Int), xs[k]? = some x → ys[k]? = some y → places d (xs.take (k + 1)) (ys.take (k + 1)) = places d (xs.take k) (ys.take k) ++ [(d + y) % x]
  | 0, x' :: xs, y' :: ys, x, y, hx, hy => by
    simp at hx hy; subst hx hy; simp [places]
  | k + 1, x' :: xs, y' :: ys, x, y, hx, hy => by
    have ih := places_snoc d k xs ys x y (by simpa using hx) (by simpa using hy)
    rw [List.take_succ_cons, List.take_succ_cons, List.take_succ_cons, List.take_succ_cons]
    simp only [places, ih, List.cons_append]
theorem places_len (d : Int) : ∀ (xs ys : List Int), ys.length = xs.length → (places d xs ys).length = xs.length
  | [], _, _ => by simp [places]
  | x :: xs, [], h => by simp at h
  | x :: xs, y :: ys, h => by simp [places, places_len d xs ys (by simpa using h)]
theorem places_at (d : Int) : ∀ (k : Nat) (xs ys : List Int) (x y : Int), xs[k]? = some x → ys[k]? = some y → (places d xs ys)[k]? = some ((d + y) % x)
  | 0, x' :: xs, y' :: ys, x, y, hx, hy => by simp at hx hy; subst hx hy; simp [places]
  | k + 1, x' :: xs, y' :: ys, x, y, hx, hy => by
    have ih := places_at d k xs ys x y (by simpa using hx) (by simpa using hy)
    simpa [places] using ih
theorem ref_SameInts (w : World) (a b : Option Addr) (n c m e : Nat) (xs ys : List Int) (h1 : Ints w w.heap.size a n xs) (h2 : Ints w w.heap.size b m ys) :
    Calls Try.prog 30 #[.slice a n c, .slice b m e] w fun e w' => e = .returned (.bool (xs == ys)) ∧ Drawn w w' := by
  have l1 := h1.1; have l2 := h2.1
  have m1 := h1.2.1; have m2 := h2.2.1
  by_cases hne : n ≠ m
  · have ho := Lib.hid (show (xs == ys) = false by rw [beq_eq_false_iff_ne]; rintro rfl; omega)
    have hb : ((n : Int) != (m : Int)) = true := by simp; omega
    clear h1 h2 l1 l2 hne
    go_enter Try.func30, Try.ntmps30
    go_wp2_with fail
    go_ret
    exact ⟨ret_bool (by rw [ho.out]), Drawn.refl _⟩
  obtain rfl : n = m := by omega
  have H1 := Lib.hid h1; have H2 := Lib.hid h2; have L1 := Lib.hid l1; have L2 := Lib.hid l2
  clear h1 h2 l1 l2 hne
  go_enter Try.func30, Try.ntmps30
  go_wp2_with fail
  go_loopw [5, 13] (fun _ i wr => ∃ k : Nat, k ≤ n ∧ i = .int .i64 k ∧ (∀ j, j < k → xs[j]? = ys[j]?) ∧ Drawn w wr) (fun _ i _ => n - (intOf i).toNat)
  case atStart => exact ⟨0, by omega, rfl, fun j h => by omega, Drawn.refl _⟩
  case round =>
    obtain ⟨k, hk, rfl, hall, hd⟩ := hrel
    have HA := Lib.hid hall; clear hall
    obtain ⟨nd, rfl⟩ := hd
    by_cases hlt : k < n
    · obtain ⟨b1, o1, x, rfl, hb1, hc1, hx, x1, x2⟩ := H1.out.at_ hlt
      obtain ⟨b2, o2, y, rfl, hb2, hc2, hy, y1, y2⟩ := H2.out.at_ hlt
      have HX := Lib.hid hx; have HY := Lib.hid hy; clear hx hy
      by_cases hxy : x = y
      · have hb : (x != y) = false := by simpa using hxy
        have hnx := Lib.hid (show ∀ j, j < k + 1 → xs[j]? = ys[j]? from fun j hj => by
          by_cases hjk : j = k
          · subst hjk; rw [HX.out, HY.out, hxy]
          · exact HA.out j (by omega))
        clear hxy
        go_wp2_with fail
        go_quiet (fail)
        go_wp2_with fail
        go_roundw
        case rel => exact ⟨k + 1, by omega, by go_num, hnx.out, by (repeat' (first | exact Drawn.refl _ | assumption | refine Drawn.drew ?_ | refine Drawn.drewN ?_ _ | exact ⟨_, rfl⟩))⟩
        case measure => simp [intOf]; omega
      · have hb : (x != y) = true := by simpa using hxy
        have ho := Lib.hid (show (xs == ys) = false by
          rw [beq_eq_false_iff_ne]; rintro rfl
          have := HX.out.symm.trans HY.out
          injection this with this; exact hxy this)
        clear hxy
        go_wp2_with fail
        go_quiet (fail)
        go_wp2_with fail
        go_ret
        exact ⟨ret_bool (by rw [ho.out]), by (repeat' (first | exact Drawn.refl _ | assumption | refine Drawn.drew ?_ | refine Drawn.drewN ?_ _ | exact ⟨_, rfl⟩))⟩
    · have ho := Lib.hid (show (xs == ys) = true by
        rw [beq_iff_eq]
        apply List.ext_getElem?
        intro j
        by_cases hj : j < k
        · exact HA.out j hj
        · rw [List.getElem?_eq_none (by have := L1.out; omega), List.getElem?_eq_none (by have := L2.out; omega)])
      go_wp2_with fail
      go_ret
      exact ⟨ret_bool (by rw [ho.out]), by (repeat' (first | exact Drawn.refl _ | assumption | refine Drawn.drew ?_ | refine Drawn.drewN ?_ _ | exact ⟨_, rfl⟩))⟩
theorem Try.infoInt' : (Try.prog.info? 3).map (fun i => (i.zero, i.size, i.bytes)) = some (some (.int .i64 0), 1, 8) := by kernel_rfl
theorem own_drawn {w w' : World} {base : Nat} {e : TypeId} {size : Nat} {v : Value} {n : Nat} {xs : List Value} (h : w.ownsRow base e size v n xs) (d : Drawn w w') : w'.ownsRow base e size v n xs := by
  obtain ⟨m, rfl⟩ := d; exact h
theorem own_above {w : World} {base : Nat} {e : TypeId} {size : Nat} {v : Value} {n : Nat} {xs : List Value} (h : w.ownsRow base e size v n xs) {b : Nat} (hb : b < base) : some b ≠ v.ownBlock := by
  rcases h.2 with ⟨rfl, _⟩ | ⟨g, cap, cur, rfl, hg, _⟩
  · simp [Value.ownBlock]
  · simp [Value.ownBlock]; omega
theorem At.grown' {w w' : World} {b : Nat} {o : Obj} {row : Option Nat} (h : At w b o) (hg : w.grownBy w' row) (hne : some b ≠ row) : At w' b o := (hg.block b h.lt hne).trans h
/-- What cycle.Of leaves. -/
def OfOut (w : World) (n : Nat) (zs : List Int) (e : Ending) (w' : World) : Prop := ∃ a c, e = .returned (.tuple #[.slice a n c, .int .i64 0]) ∧ Ints w' w'.heap.size a n zs ∧ Below w.heap.size w w'
set_option maxHeartbeats 2000000 in
theorem cycle_Of_ok (w : World) (a1 a2 : Option Addr) (n1 c1 n2 c2 : Nat) (xs ys : List Int) (d : Int) (d1 : -4000000 ≤ d) (d2 : d ≤ 4000000) (q : setErr xs ys = 0) (h1 : Ints w w.heap.size a1 n1 xs) (h2 : Ints w w.heap.size a2 n2 ys) :
    Calls Try.prog 29 #[.agg #[.slice a1 n1 c1, .slice a2 n2 c2], .int .i64 d] w (OfOut w n1 (places d xs ys)) := by
  obtain ⟨i0, hi, hz0, hz1, hz2⟩ := info_parts Try.infoInt'
  have ok := setOk_of q
  have l1 := h1.1; have l2 := h2.1
  have L1 := Lib.hid l1; have L2 := Lib.hid l2
  have hn8 : n1 ≤ 8 := by have := ok.l2; omega
  have hnn : n2 = n1 := by have := ok.len; omega
  subst hnn
  clear l1 l2
  have H1 := Lib.hid h1; have H2 := Lib.hid h2; have HQ := Lib.hid q; have OK := Lib.hid ok
  clear h1 h2 q ok
  have hd := inB_yes d1 d2
  go_enter Try.func29, Try.ntmps29
  go_wp2_with fail
  refine (cycle_Check _ _ _ _ _ _ _ xs ys ((H1.out.below (below_new (Below.refl _ _) _) (Nat.le_refl _)).more (by simp)) ((H2.out.below (below_new (Below.refl _ _) _) (Nat.le_refl _)).more (by simp))).mono ?_
  rw [HQ.out]
  rintro e w1 ⟨rfl, hb⟩
  have a0 := (At.new w (.cells #[.slice a1 n2 c1, .slice a2 n2 c2] 47)).then_ hb
  have b0 : Below w.heap.size w w1 := by (repeat' (first | exact Below.refl _ _ | assumption | refine Below.drew ?_ | refine below_drewN ?_ _ | refine below_new ?_ _ | refine below_set ?_ ?_ _ | refine below_then ?_ (by assumption) | refine below_drawn ?_ (by assumption) | exact Nat.le_refl _ | omega | (simp; done) | (simp; omega)))
  clear hb
  have d0 := a0.cell 0; have d1 := a0.cell 1; simp at d0 d1
  have hlt := a0.lt
  go_wp2_with fail
  refine (line_Is _ _).mono ?_; rw [hd]; rintro e w2 ⟨rfl, rfl⟩
  go_wp2_with fail
  clear d0 d1
  go_loopw [7, 8, 9, 21] (fun v _ _ i wr => ∃ k : Nat, k ≤ n2 ∧ i = .int .i64 k ∧ wr.ownsRow (w.heap.size + 1) 3 1 v k ((places d (xs.take k) (ys.take k)).map (Value.int .i64)) ∧ At wr w.heap.size (.cells #[.slice a1 n2 c1, .slice a2 n2 c2] 47) ∧ Below w.heap.size w wr) (fun _ _ _ i _ => n2 - (intOf i).toNat)
  case atStart => exact ⟨0, by omega, rfl, World.ownsRow_nil _ _ _ _, a0, b0⟩
  case round =>
    clear a0 b0 hlt
    obtain ⟨k, hk, rfl, hown, a0, b0⟩ := hrel
    have hltw := a0.lt
    by_cases hlt : k < n2
    · obtain ⟨e1, o1, x, rfl, hb1, hc1, hx, x1, x2⟩ := (H1.out.below b0 (Nat.le_refl _)).at_ hlt
      obtain ⟨e2, o2, y, rfl, hb2, hc2, hy, y1, y2⟩ := (H2.out.below b0 (Nat.le_refl _)).at_ hlt
      obtain ⟨p1, p2, p3, p4⟩ := OK.out.each k x y hx hy
      have hsn := Lib.hid (places_snoc d k xs ys x y hx hy)
      have d1' := a0.cell 1
      simp at d1'
      have OWN := Lib.hid hown; clear hown hx hy
      go_wp2_with fail
      refine (whole_Mod _ _ _ (by omega) (by omega) (by omega) (by omega)).mono ?_
      rintro e w3 ⟨rfl, hdr⟩
      have own3 := own_drawn OWN.out hdr
      replace a0 := a0.drawn hdr
      replace b0 := below_drawn b0 hdr
      have hw3 : w.heap.size + 1 ≤ w3.heap.size := by have := a0.lt; omega
      have OWN3 := Lib.hid own3
      clear own3 hdr hc1 hc2 d1' OWN
      have m1 := Int.emod_nonneg (d + y) (show x ≠ 0 by omega)
      have m2 := Int.emod_lt_of_pos (d + y) (show 0 < x by omega)
      generalize (d + y) % x = P at *
      go_wp2_with (at_builtin; refine wpList_append_own _ rfl _ _ 35 rfl (w.heap.size + 1) 3 i0 (.int .i64 0) 1 8 Try.underlying35 hi hz0 hz1 hz2 rfl (by decide) _ _ _ rfl (OWN3.out.alloc _) ⟨w3.heap.size, 0, none⟩ 1 1 [.int .i64 P] rfl rfl ?c1 ?c2 ?c3 ?c4 ?c5 ?_)
      case c1 =>
        intro j u hj
        match j, hj with
        | 0, hj => simp at hj; subst hj; simp [Addr.add]
      case c2 => intro u hu; simp at hu; subst hu; rfl
      case c3 => unfold maxLen; omega
      case c4 => omega
      case c5 => simp; omega
      intro v' w4 hown' hgrow _
      have a1' := (a0.alloc (.cells #[.int .i64 P] 3)).grown' hgrow (own_above OWN3.out (by omega))
      have b1' : Below w.heap.size w w4 := (below_new b0 (.cells #[.int .i64 P] 3)).grown hgrow (by simp; omega) (fun b hb => by
        rcases Nat.lt_or_ge b (w.heap.size + 1) with h | h
        · exact absurd hb.symm (own_above OWN3.out h)
        · omega)
      have OWN' := Lib.hid hown'
      clear hown' hgrow a0 b0 OWN3
      go_wp2_with fail
      go_roundw
      case rel =>
        refine ⟨k + 1, by omega, by go_num, ?_, a1', b1'⟩
        rw [hsn.out, List.map_append]
        exact OWN'.out
      case measure => simp [intOf]; omega
    · obtain rfl : n2 = k := by omega
      rw [List.take_of_length_le (by rw [L1.out]; exact Nat.le_refl _), List.take_of_length_le (by rw [L2.out]; exact Nat.le_refl _)] at hown
      obtain ⟨aa, cc, hv, _, _, hI⟩ := own_ints hown (fun z hz => by
        obtain ⟨i, hi, rfl⟩ := List.getElem_of_mem hz
        have hl := places_len d xs ys (by rw [L1.out, L2.out])
        have hxl : i < xs.length := by omega
        have hyl : i < ys.length := by have := L1.out; have := L2.out; omega
        have he := OK.out.each i _ _ (List.getElem?_eq_getElem hxl) (List.getElem?_eq_getElem hyl)
        have hp := places_at d i xs ys _ _ (List.getElem?_eq_getElem hxl) (List.getElem?_eq_getElem hyl)
        rw [List.getElem?_eq_getElem hi] at hp
        injection hp with hp
        rw [hp]
        have m1 := Int.emod_nonneg (d + ys[i]) (show xs[i] ≠ 0 by omega)
        have m2 := Int.emod_lt_of_pos (d + ys[i]) (show 0 < xs[i] by omega)
        unfold I64; omega) (by rw [places_len d xs ys (by rw [L1.out, L2.out])]; exact L1.out)
      subst hv
      have HI := Lib.hid hI; clear hI hown
      go_wp2_with fail
      go_ret2
      exact ⟨aa, cc, rfl, HI.out, b0⟩
end Go.Proofs.Ytghecclgaaklaaa
