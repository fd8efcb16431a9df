/- Contract of the reference's NumeralText in the scripts 9 to 11. -/
import Derived.Test.YticflmepmmdnfabDoorNml9
namespace Go.Proofs.YticflmepmmdnfabDoor
set_option linter.unusedVariables false
set_option linter.unusedSimpArgs false
set_option maxRecDepth 100000
open Go.RowKit Go.Shelf Nml

def encSg (x : Nat × List UInt8) : List Value := [.int .i64 (x.1 : Int), .string ⟨x.2.toArray⟩]
def lObj (xs : List (Nat × List UInt8)) : Obj := .cells (xs.flatMap encSg).toArray 50
theorem sg_pairs : ∀ (xs : List (Nat × List UInt8)) (k v : Nat) (t : List UInt8), xs[k]? = some (v, t) → (xs.flatMap encSg)[k * 2]? = some (.int .i64 (v : Int)) ∧ (xs.flatMap encSg)[k * 2 + 1]? = some (.string ⟨t.toArray⟩)
  | [], k, v, t, h => by simp at h
  | x :: r, 0, v, t, h => by
    injection h with h; subst h; exact ⟨rfl, rfl⟩
  | x :: r, k + 1, v, t, h => by
    have ih := sg_pairs r k v t h
    rw [List.flatMap_cons]
    have e1 : (k + 1) * 2 = k * 2 + 2 := by omega
    rw [e1]
    exact ⟨ih.1, ih.2⟩
/-- A list of signs in memory. -/
def SgAt (W : World) (b off : Nat) (xs : List (Nat × List UInt8)) : Prop := b < W.heap.size ∧ ∀ (k v : Nat) (t : List UInt8), xs[k]? = some (v, t) → W.cell? ⟨b, off + k * 2, none⟩ = some (.int .i64 (v : Int)) ∧ W.cell? ⟨b, off + k * 2 + 1, none⟩ = some (.string ⟨t.toArray⟩)
theorem SgAt.step {W W' : World} {b off : Nat} {xs : List (Nat × List UInt8)} (h : SgAt W b off xs) (hb : Below W.heap.size W W') : SgAt W' b off xs :=
  ⟨Nat.lt_of_lt_of_le h.1 hb.size, fun k v t hx => ⟨(hb.cell (show (⟨b, off + k * 2, none⟩ : Addr).block < W.heap.size from h.1)).trans (h.2 k v t hx).1, (hb.cell (show (⟨b, off + k * 2 + 1, none⟩ : Addr).block < W.heap.size from h.1)).trans (h.2 k v t hx).2⟩⟩
theorem SgAt.of {W : World} {b : Nat} {xs : List (Nat × List UInt8)} (h : At W b (lObj xs)) : SgAt W b 0 xs := by
  refine ⟨h.lt, fun k v t hx => ?_⟩
  obtain ⟨h1, h2⟩ := sg_pairs xs k v t hx
  rw [Nat.zero_add]
  exact ⟨(At.cell h (k * 2)).trans (by simpa using h1), (At.cell h (k * 2 + 1)).trans (by simpa using h2)⟩
def SgPost (xs : List (Nat × List UInt8)) (w : World) (e : Ending) (w' : World) : Prop := ∃ b off, e = .returned (.slice (some ⟨b, off, none⟩) xs.length xs.length) ∧ SgAt w' b off xs ∧ Below w.heap.size w w'
theorem SgPost.of (xs : List (Nat × List UInt8)) (w : World) : SgPost xs w (.returned (.slice (some ⟨w.heap.size, 0, none⟩) xs.length xs.length)) (w.alloc (lObj xs)) :=
  ⟨w.heap.size, 0, rfl, SgAt.of (At.new w (lObj xs)), below_new (Below.refl _ _) _⟩
set_option maxHeartbeats 4000000 in
theorem ref_list9 (w : World) : Calls Tryd.prog 28 #[.int .i64 9] w (SgPost listR w) := by
  have HP := Lib.hid (SgPost.of listR w)
  go_enter Tryd.func28, Tryd.ntmps28
  go_wp2_with fail
  go_ret
  exact HP.out
set_option maxHeartbeats 4000000 in
theorem ref_list10 (w : World) : Calls Tryd.prog 28 #[.int .i64 10] w (SgPost listG w) := by
  have HP := Lib.hid (SgPost.of listG w)
  go_enter Tryd.func28, Tryd.ntmps28
  go_wp2_with fail
  go_ret
  exact HP.out
set_option maxHeartbeats 4000000 in
theorem ref_list11 (w : World) : Calls Tryd.prog 28 #[.int .i64 11] w (SgPost listH w) := by
  have HP := Lib.hid (SgPost.of listH w)
  go_enter Tryd.func28, Tryd.ntmps28
  go_wp2_with fail
  go_ret
  exact HP.out
theorem reps_snoc (t : List UInt8) : ∀ j, reps t (j + 1) = reps t j ++ t
  | 0 => by simp [reps]
  | j + 1 => by
    show t ++ reps t (j + 1) = (t ++ reps t j) ++ t
    rw [reps_snoc t j, List.append_assoc]
theorem times_le (s v n : Nat) (hv : 0 < v) : times s v n * v ≤ n := by
  unfold times
  split
  · split
    · omega
    · omega
  · exact Nat.div_mul_le_self n v
/-- The inner loop goes on just where a sign is left. -/
def goes (s v n : Nat) : Prop := v ≤ n ∧ (¬ (s = 11 ∧ (v = 15 ∨ v = 16)) ∨ n = v)
theorem goes_iff (s v n j : Nat) (hv : 0 < v) (hj : j ≤ times s v n) : goes s v (n - j * v) ↔ j < times s v n := by
  have hle := times_le s v n hv
  unfold goes
  by_cases hc : s = 11 ∧ (v = 15 ∨ v = 16)
  · unfold times at hj ⊢
    rw [if_pos hc] at hj ⊢
    by_cases hn : n = v
    · rw [if_pos hn] at hj ⊢
      have : j = 0 ∨ j = 1 := by omega
      rcases this with rfl | rfl
      · simp; omega
      · simp; omega
    · rw [if_neg hn] at hj ⊢
      obtain rfl : j = 0 := by omega
      simp only [Nat.zero_mul, Nat.sub_zero, Nat.lt_irrefl, iff_false]
      rintro ⟨h1, h2 | h2⟩
      · exact h2 hc
      · exact hn h2
  · unfold times at hj hle ⊢
    rw [if_neg hc] at hj hle ⊢
    constructor
    · rintro ⟨h1, -⟩
      have h3 : (j + 1) * v ≤ n := by
        have hjv : j * v ≤ n := Nat.le_trans (Nat.mul_le_mul_right v hj) hle
        rw [Nat.add_mul, Nat.one_mul]; omega
      exact (Nat.le_div_iff_mul_le hv).2 h3
    · intro h1
      have h3 : (j + 1) * v ≤ n := (Nat.le_div_iff_mul_le hv).1 h1
      rw [Nat.add_mul, Nat.one_mul] at h3
      exact ⟨by omega, .inl hc⟩
def refR (xs : List (Nat × List UInt8)) (s n k : Nat) : List UInt8 × Nat := (xs.take k).foldl (refStep s) ([], n)
theorem refR_succ {xs : List (Nat × List UInt8)} (s n k v : Nat) (t : List UInt8) (h : xs[k]? = some (v, t)) : refR xs s n (k + 1) = ((refR xs s n k).1 ++ reps t (times s v (refR xs s n k).2), (refR xs s n k).2 - times s v (refR xs s n k).2 * v) := by
  unfold refR
  rw [List.take_add_one, h, List.foldl_append]; rfl
theorem reps_len (t : List UInt8) : ∀ j, (reps t j).length = j * t.length
  | 0 => by simp [reps]
  | j + 1 => by show (t ++ reps t j).length = _; rw [List.length_append, reps_len t j, Nat.add_mul]; omega
theorem refR_len {xs : List (Nat × List UInt8)} (hx : ∀ x ∈ xs, 1 ≤ x.1 ∧ x.2.length ≤ 4) (s n : Nat) : ∀ k, (refR xs s n k).1.length + 4 * (refR xs s n k).2 ≤ 4 * n
  | 0 => by simp [refR]
  | k + 1 => by
    have ih := refR_len hx s n k
    cases hp : xs[k]? with
    | none =>
      have : refR xs s n (k + 1) = refR xs s n k := by unfold refR; rw [List.take_add_one, hp]; simp
      rw [this]; exact ih
    | some p =>
      obtain ⟨v, t⟩ := p
      obtain ⟨h1, h2⟩ := hx _ (List.mem_of_getElem? hp)
      simp only [] at h1 h2
      rw [refR_succ s n k v t hp]
      simp only []
      generalize refR xs s n k = st at ih ⊢
      have h3 := times_le s v st.2 h1
      rw [List.length_append, reps_len]
      generalize times s v st.2 = m at h3 ⊢
      have h4 : m * t.length ≤ 4 * (m * v) := by
        have : m * t.length ≤ m * (4 * v) := Nat.mul_le_mul_left m (by omega)
        rw [Nat.mul_comm 4 (m * v), Nat.mul_assoc, Nat.mul_comm v 4]; exact this
      omega
theorem list_small (xs : List (Nat × List UInt8)) (h : xs = listR ∨ xs = listG ∨ xs = listH) : ∀ x ∈ xs, 1 ≤ x.1 ∧ x.1 ≤ 1000 ∧ x.2.length ≤ 4 := by
  rcases h with rfl | rfl | rfl <;> decide +kernel
def SgIn (w : World) (b off : Nat) (xs : List (Nat × List UInt8)) (W : World) : Prop := SgAt W b off xs ∧ Below w.heap.size w W
theorem SgIn.step {w W W' : World} {b off : Nat} {xs : List (Nat × List UInt8)} (h : SgIn w b off xs W) (hb : Below W.heap.size W W') : SgIn w b off xs W' := ⟨h.1.step hb, below_then h.2 hb⟩
set_option maxHeartbeats 16000000 in
theorem ref_NumeralText9 (n : Nat) (w : World) (hn : n < 4000) :
    Calls Tryd.prog 13 #[.int .i64 9, .int .i64 (n : Int)] w fun e w' => e = .returned (.string ⟨(refS 9 n).toArray⟩) ∧ Below w.heap.size w w' := by
  have HR := Lib.hid (show refS 9 n = (refR listR 9 n listR.length).1 by unfold refR; rw [List.take_length]; rfl)
  have HX := Lib.hid (list_small listR (by simp))
  have HLN := Lib.hid (fun k => refR_len (xs := listR) (fun x hx => ⟨(HX.out x hx).1, (HX.out x hx).2.2⟩) 9 n k)
  have CL := Lib.hid (ref_list9 w)
  have h30 : listR.length ≤ 30 := by decide
  generalize listR = xs at *
  go_enter Tryd.func13, Tryd.ntmps13
  go_wp2_with fail
  refine CL.out.mono ?_
  rintro e w1 ⟨b, off, rfl, hsg, hb⟩
  have HS := Lib.hid (show SgIn w b off xs w1 from ⟨hsg, hb⟩); clear hsg hb
  obtain ⟨LN, hLN⟩ : ∃ LN, LN = xs.length := ⟨_, rfl⟩
  rw [← hLN] at h30 ⊢
  have HLEN := Lib.hid hLN; clear hLN
  go_wp2_with fail
  go_loopw [1, 13, 97] (fun m v i wr => ∃ k : Nat, k ≤ LN ∧ i = .int .i64 k ∧ v = .string ⟨(refR xs 9 n k).1.toArray⟩ ∧ m = .int .i64 ((refR xs 9 n k).2 : Int) ∧ SgIn w b off xs wr) (fun _ _ i _ => LN - (intOf i).toNat)
  case atStart => exact ⟨0, by omega, rfl, rfl, rfl, HS.out⟩
  case round =>
    clear HS
    obtain ⟨k, hk, rfl, rfl, rfl, hp⟩ := hrel
    have hlen := HLN.out k
    by_cases hlt : k < LN
    · have hg : xs[k]? = some (xs[k]'(by rw [← HLEN.out]; exact hlt)) := List.getElem?_eq_getElem _
      obtain ⟨v, t, hvt⟩ : ∃ v t, xs[k]? = some (v, t) := ⟨_, _, hg⟩
      obtain ⟨v1, v2, t4⟩ := HX.out _ (List.mem_of_getElem? hvt)
      simp only [] at v1 v2 t4
      obtain ⟨c0, c1⟩ := hp.1.2 k v t hvt
      have hbl := hp.1.1
      have HSU := Lib.hid (refR_succ 9 n k v t hvt)
      clear hg hvt
      generalize refR xs 9 n k = st at hlen HSU ⊢
      obtain ⟨O0, m0⟩ := st
      simp only [] at hlen HSU ⊢
      have HP := Lib.hid hp; clear hp
      have HTL := Lib.hid (times_le 9 v m0 v1)
      have HGO := Lib.hid (fun j hj => goes_iff 9 v m0 j v1 hj)
      generalize hTM : times 9 v m0 = TM at HTL HGO HSU
      clear hTM
      go_wp2_with fail
      have pc : SgIn w b off xs (wr.alloc (.cells #[.int .i64 (v : Int), .string ⟨t.toArray⟩] 50)) := HP.out.step (below_new (Below.refl _ _) _)
      have y0 : (wr.alloc (.cells #[.int .i64 (v : Int), .string ⟨t.toArray⟩] 50)).cell? ⟨wr.heap.size, 0, none⟩ = some (.int .i64 (v : Int)) := (At.new wr _).cell 0
      have y1 : (wr.alloc (.cells #[.int .i64 (v : Int), .string ⟨t.toArray⟩] 50)).cell? ⟨wr.heap.size, 1, none⟩ = some (.string ⟨t.toArray⟩) := (At.new wr _).cell 1
      have PC := Lib.hid pc; clear pc c0 c1
      generalize World.alloc wr _ = W4 at PC y0 y1 ⊢
      obtain ⟨C, hC⟩ : ∃ C, C = wr.heap.size := ⟨_, rfl⟩
      rw [← hC] at y0 y1 ⊢
      clear hC hbl HP
      have Y0 := Lib.hid y0; have Y1 := Lib.hid y1
      clear y0 y1
      go_loopw [1, 13] (fun m u wr => ∃ j : Nat, j ≤ TM ∧ m = .int .i64 ((m0 - j * v : Nat) : Int) ∧ u = .string ⟨(O0 ++ reps t j).toArray⟩ ∧ wr = W4) (fun m _ _ => (intOf m).toNat)
      case atStart => exact ⟨0, by omega, by simp, by simp [reps], rfl⟩
      case round =>
        obtain ⟨j, hj, rfl, rfl, rfl⟩ := hrel
        have hgo := HGO.out j hj
        have htl := HTL.out
        have hjv : j * v ≤ m0 := Nat.le_trans (Nat.mul_le_mul_right v hj) htl
        have y0 := Y0.out
        have y1 := Y1.out
        have hrl : (O0 ++ reps t j).length + 4 * (m0 - j * v) ≤ 16000 := by
          rw [List.length_append, reps_len]
          have h4 : j * t.length ≤ 4 * (j * v) := by
            have : j * t.length ≤ j * (4 * v) := Nat.mul_le_mul_left j (by omega)
            rw [Nat.mul_comm 4 (j * v), Nat.mul_assoc, Nat.mul_comm v 4]; exact this
          omega
        have hrs : O0 ++ reps t (j + 1) = O0 ++ reps t j ++ t := by rw [reps_snoc, List.append_assoc]
        have hnj : m0 - (j + 1) * v = m0 - j * v - v := by rw [Nat.add_mul, Nat.one_mul]; omega
        have ha := addL (O0 ++ reps t j) t _ rfl (by rw [List.length_append]; omega)
        rw [← hrs] at ha
        obtain ⟨T, hT⟩ : ∃ T, T = O0 ++ reps t (j + 1) := ⟨_, rfl⟩
        rw [← hT] at ha
        have HT := Lib.hid hT
        obtain ⟨NJ, hNJ⟩ : ∃ NJ, NJ = ((m0 - (j + 1) * v : Nat) : Int) := ⟨_, rfl⟩
        have HNJ := Lib.hid hNJ
        by_cases hlast : j < TM
        · have hg := hgo.2 hlast
          unfold goes at hg
          obtain ⟨g1, g2⟩ := hg
          have hNJ2 : NJ = ((m0 - j * v : Nat) : Int) - (v : Int) := by rw [hNJ, hnj]; omega
          generalize hM : m0 - j * v = M at *
          generalize O0 ++ reps t j = U at *
          have f1 : (v : Int) ≤ (M : Int) := by omega
          have f2 : IntKind.i64.wrap ((M : Int) - (v : Int)) = NJ := by rw [hNJ2]; exact IntWalk.i64_in _ (by omega)
          have HM2 := Lib.hid hNJ2
          clear hrs hnj hT hNJ hM hgo htl hjv hNJ2
          clear g1 g2
          go_wp2_with fail
          go_roundw
          case rel => exact ⟨j + 1, by omega, by rw [← HNJ.out], by rw [← HT.out], by first | rfl | trivial⟩
          case measure => have := HM2.out; simp [intOf]; omega
        · have hJ : j = TM := by omega
          have HJ := Lib.hid hJ
          have hno : ¬ goes 9 v (m0 - j * v) := fun h => hlast (hgo.1 h)
          unfold goes at hno
          clear ha hT hNJ hrs hnj hgo HT HNJ hlast
          by_cases g1 : v ≤ m0 - j * v
          · exact absurd ⟨g1, .inl (by omega)⟩ hno
          · have f1 : ¬ (v : Int) ≤ ((m0 - j * v : Nat) : Int) := by omega
            clear hno hJ g1
            go_wp2_with fail
            go_roundw
            case rel => exact ⟨k + 1, by omega, by go_num, by rw [HSU.out, HJ.out], by rw [HSU.out, HJ.out], PC.out⟩
            case measure => simp [intOf]; omega
    · obtain rfl : k = LN := by omega
      have HP := Lib.hid hp; clear hp
      go_wp2_with fail
      go_ret
      exact ⟨by rw [HR.out, HLEN.out]; rfl, HP.out.2⟩
set_option maxHeartbeats 16000000 in
theorem ref_NumeralText10 (n : Nat) (w : World) (hn : n < 4000) :
    Calls Tryd.prog 13 #[.int .i64 10, .int .i64 (n : Int)] w fun e w' => e = .returned (.string ⟨(refS 10 n).toArray⟩) ∧ Below w.heap.size w w' := by
  have HR := Lib.hid (show refS 10 n = (refR listG 10 n listG.length).1 by unfold refR; rw [List.take_length]; rfl)
  have HX := Lib.hid (list_small listG (by simp))
  have HLN := Lib.hid (fun k => refR_len (xs := listG) (fun x hx => ⟨(HX.out x hx).1, (HX.out x hx).2.2⟩) 10 n k)
  have CL := Lib.hid (ref_list10 w)
  have h30 : listG.length ≤ 30 := by decide
  generalize listG = xs at *
  go_enter Tryd.func13, Tryd.ntmps13
  go_wp2_with fail
  refine CL.out.mono ?_
  rintro e w1 ⟨b, off, rfl, hsg, hb⟩
  have HS := Lib.hid (show SgIn w b off xs w1 from ⟨hsg, hb⟩); clear hsg hb
  obtain ⟨LN, hLN⟩ : ∃ LN, LN = xs.length := ⟨_, rfl⟩
  rw [← hLN] at h30 ⊢
  have HLEN := Lib.hid hLN; clear hLN
  go_wp2_with fail
  go_loopw [1, 13, 97] (fun m v i wr => ∃ k : Nat, k ≤ LN ∧ i = .int .i64 k ∧ v = .string ⟨(refR xs 10 n k).1.toArray⟩ ∧ m = .int .i64 ((refR xs 10 n k).2 : Int) ∧ SgIn w b off xs wr) (fun _ _ i _ => LN - (intOf i).toNat)
  case atStart => exact ⟨0, by omega, rfl, rfl, rfl, HS.out⟩
  case round =>
    clear HS
    obtain ⟨k, hk, rfl, rfl, rfl, hp⟩ := hrel
    have hlen := HLN.out k
    by_cases hlt : k < LN
    · have hg : xs[k]? = some (xs[k]'(by rw [← HLEN.out]; exact hlt)) := List.getElem?_eq_getElem _
      obtain ⟨v, t, hvt⟩ : ∃ v t, xs[k]? = some (v, t) := ⟨_, _, hg⟩
      obtain ⟨v1, v2, t4⟩ := HX.out _ (List.mem_of_getElem? hvt)
      simp only [] at v1 v2 t4
      obtain ⟨c0, c1⟩ := hp.1.2 k v t hvt
      have hbl := hp.1.1
      have HSU := Lib.hid (refR_succ 10 n k v t hvt)
      clear hg hvt
      generalize refR xs 10 n k = st at hlen HSU ⊢
      obtain ⟨O0, m0⟩ := st
      simp only [] at hlen HSU ⊢
      have HP := Lib.hid hp; clear hp
      have HTL := Lib.hid (times_le 10 v m0 v1)
      have HGO := Lib.hid (fun j hj => goes_iff 10 v m0 j v1 hj)
      generalize hTM : times 10 v m0 = TM at HTL HGO HSU
      clear hTM
      go_wp2_with fail
      have pc : SgIn w b off xs (wr.alloc (.cells #[.int .i64 (v : Int), .string ⟨t.toArray⟩] 50)) := HP.out.step (below_new (Below.refl _ _) _)
      have y0 : (wr.alloc (.cells #[.int .i64 (v : Int), .string ⟨t.toArray⟩] 50)).cell? ⟨wr.heap.size, 0, none⟩ = some (.int .i64 (v : Int)) := (At.new wr _).cell 0
      have y1 : (wr.alloc (.cells #[.int .i64 (v : Int), .string ⟨t.toArray⟩] 50)).cell? ⟨wr.heap.size, 1, none⟩ = some (.string ⟨t.toArray⟩) := (At.new wr _).cell 1
      have PC := Lib.hid pc; clear pc c0 c1
      generalize World.alloc wr _ = W4 at PC y0 y1 ⊢
      obtain ⟨C, hC⟩ : ∃ C, C = wr.heap.size := ⟨_, rfl⟩
      rw [← hC] at y0 y1 ⊢
      clear hC hbl HP
      have Y0 := Lib.hid y0; have Y1 := Lib.hid y1
      clear y0 y1
      go_loopw [1, 13] (fun m u wr => ∃ j : Nat, j ≤ TM ∧ m = .int .i64 ((m0 - j * v : Nat) : Int) ∧ u = .string ⟨(O0 ++ reps t j).toArray⟩ ∧ wr = W4) (fun m _ _ => (intOf m).toNat)
      case atStart => exact ⟨0, by omega, by simp, by simp [reps], rfl⟩
      case round =>
        obtain ⟨j, hj, rfl, rfl, rfl⟩ := hrel
        have hgo := HGO.out j hj
        have htl := HTL.out
        have hjv : j * v ≤ m0 := Nat.le_trans (Nat.mul_le_mul_right v hj) htl
        have y0 := Y0.out
        have y1 := Y1.out
        have hrl : (O0 ++ reps t j).length + 4 * (m0 - j * v) ≤ 16000 := by
          rw [List.length_append, reps_len]
          have h4 : j * t.length ≤ 4 * (j * v) := by
            have : j * t.length ≤ j * (4 * v) := Nat.mul_le_mul_left j (by omega)
            rw [Nat.mul_comm 4 (j * v), Nat.mul_assoc, Nat.mul_comm v 4]; exact this
          omega
        have hrs : O0 ++ reps t (j + 1) = O0 ++ reps t j ++ t := by rw [reps_snoc, List.append_assoc]
        have hnj : m0 - (j + 1) * v = m0 - j * v - v := by rw [Nat.add_mul, Nat.one_mul]; omega
        have ha := addL (O0 ++ reps t j) t _ rfl (by rw [List.length_append]; omega)
        rw [← hrs] at ha
        obtain ⟨T, hT⟩ : ∃ T, T = O0 ++ reps t (j + 1) := ⟨_, rfl⟩
        rw [← hT] at ha
        have HT := Lib.hid hT
        obtain ⟨NJ, hNJ⟩ : ∃ NJ, NJ = ((m0 - (j + 1) * v : Nat) : Int) := ⟨_, rfl⟩
        have HNJ := Lib.hid hNJ
        by_cases hlast : j < TM
        · have hg := hgo.2 hlast
          unfold goes at hg
          obtain ⟨g1, g2⟩ := hg
          have hNJ2 : NJ = ((m0 - j * v : Nat) : Int) - (v : Int) := by rw [hNJ, hnj]; omega
          generalize hM : m0 - j * v = M at *
          generalize O0 ++ reps t j = U at *
          have f1 : (v : Int) ≤ (M : Int) := by omega
          have f2 : IntKind.i64.wrap ((M : Int) - (v : Int)) = NJ := by rw [hNJ2]; exact IntWalk.i64_in _ (by omega)
          have HM2 := Lib.hid hNJ2
          clear hrs hnj hT hNJ hM hgo htl hjv hNJ2
          clear g1 g2
          go_wp2_with fail
          go_roundw
          case rel => exact ⟨j + 1, by omega, by rw [← HNJ.out], by rw [← HT.out], by first | rfl | trivial⟩
          case measure => have := HM2.out; simp [intOf]; omega
        · have hJ : j = TM := by omega
          have HJ := Lib.hid hJ
          have hno : ¬ goes 10 v (m0 - j * v) := fun h => hlast (hgo.1 h)
          unfold goes at hno
          clear ha hT hNJ hrs hnj hgo HT HNJ hlast
          by_cases g1 : v ≤ m0 - j * v
          · exact absurd ⟨g1, .inl (by omega)⟩ hno
          · have f1 : ¬ (v : Int) ≤ ((m0 - j * v : Nat) : Int) := by omega
            clear hno hJ g1
            go_wp2_with fail
            go_roundw
            case rel => exact ⟨k + 1, by omega, by go_num, by rw [HSU.out, HJ.out], by rw [HSU.out, HJ.out], PC.out⟩
            case measure => simp [intOf]; omega
    · obtain rfl : k = LN := by omega
      have HP := Lib.hid hp; clear hp
      go_wp2_with fail
      go_ret
      exact ⟨by rw [HR.out, HLEN.out]; rfl, HP.out.2⟩
set_option maxHeartbeats 16000000 in
theorem ref_NumeralText11 (n : Nat) (w : World) (hn : n < 4000) :
    Calls Tryd.prog 13 #[.int .i64 11, .int .i64 (n : Int)] w fun e w' => e = .returned (.string ⟨(refS 11 n).toArray⟩) ∧ Below w.heap.size w w' := by
  have HR := Lib.hid (show refS 11 n = (refR listH 11 n listH.length).1 by unfold refR; rw [List.take_length]; rfl)
  have HX := Lib.hid (list_small listH (by simp))
  have HLN := Lib.hid (fun k => refR_len (xs := listH) (fun x hx => ⟨(HX.out x hx).1, (HX.out x hx).2.2⟩) 11 n k)
  have CL := Lib.hid (ref_list11 w)
  have h30 : listH.length ≤ 30 := by decide
  generalize listH = xs at *
  go_enter Tryd.func13, Tryd.ntmps13
  go_wp2_with fail
  refine CL.out.mono ?_
  rintro e w1 ⟨b, off, rfl, hsg, hb⟩
  have HS := Lib.hid (show SgIn w b off xs w1 from ⟨hsg, hb⟩); clear hsg hb
  obtain ⟨LN, hLN⟩ : ∃ LN, LN = xs.length := ⟨_, rfl⟩
  rw [← hLN] at h30 ⊢
  have HLEN := Lib.hid hLN; clear hLN
  go_wp2_with fail
  go_loopw [1, 13, 97] (fun m v i wr => ∃ k : Nat, k ≤ LN ∧ i = .int .i64 k ∧ v = .string ⟨(refR xs 11 n k).1.toArray⟩ ∧ m = .int .i64 ((refR xs 11 n k).2 : Int) ∧ SgIn w b off xs wr) (fun _ _ i _ => LN - (intOf i).toNat)
  case atStart => exact ⟨0, by omega, rfl, rfl, rfl, HS.out⟩
  case round =>
    clear HS
    obtain ⟨k, hk, rfl, rfl, rfl, hp⟩ := hrel
    have hlen := HLN.out k
    by_cases hlt : k < LN
    · have hg : xs[k]? = some (xs[k]'(by rw [← HLEN.out]; exact hlt)) := List.getElem?_eq_getElem _
      obtain ⟨v, t, hvt⟩ : ∃ v t, xs[k]? = some (v, t) := ⟨_, _, hg⟩
      obtain ⟨v1, v2, t4⟩ := HX.out _ (List.mem_of_getElem? hvt)
      simp only [] at v1 v2 t4
      obtain ⟨c0, c1⟩ := hp.1.2 k v t hvt
      have hbl := hp.1.1
      have HSU := Lib.hid (refR_succ 11 n k v t hvt)
      clear hg hvt
      generalize refR xs 11 n k = st at hlen HSU ⊢
      obtain ⟨O0, m0⟩ := st
      simp only [] at hlen HSU ⊢
      have HP := Lib.hid hp; clear hp
      have HTL := Lib.hid (times_le 11 v m0 v1)
      have HGO := Lib.hid (fun j hj => goes_iff 11 v m0 j v1 hj)
      generalize hTM : times 11 v m0 = TM at HTL HGO HSU
      clear hTM
      go_wp2_with fail
      have pc : SgIn w b off xs (wr.alloc (.cells #[.int .i64 (v : Int), .string ⟨t.toArray⟩] 50)) := HP.out.step (below_new (Below.refl _ _) _)
      have y0 : (wr.alloc (.cells #[.int .i64 (v : Int), .string ⟨t.toArray⟩] 50)).cell? ⟨wr.heap.size, 0, none⟩ = some (.int .i64 (v : Int)) := (At.new wr _).cell 0
      have y1 : (wr.alloc (.cells #[.int .i64 (v : Int), .string ⟨t.toArray⟩] 50)).cell? ⟨wr.heap.size, 1, none⟩ = some (.string ⟨t.toArray⟩) := (At.new wr _).cell 1
      have PC := Lib.hid pc; clear pc c0 c1
      generalize World.alloc wr _ = W4 at PC y0 y1 ⊢
      obtain ⟨C, hC⟩ : ∃ C, C = wr.heap.size := ⟨_, rfl⟩
      rw [← hC] at y0 y1 ⊢
      clear hC hbl HP
      have Y0 := Lib.hid y0; have Y1 := Lib.hid y1
      clear y0 y1
      go_loopw [1, 13] (fun m u wr => ∃ j : Nat, j ≤ TM ∧ m = .int .i64 ((m0 - j * v : Nat) : Int) ∧ u = .string ⟨(O0 ++ reps t j).toArray⟩ ∧ wr = W4) (fun m _ _ => (intOf m).toNat)
      case atStart => exact ⟨0, by omega, by simp, by simp [reps], rfl⟩
      case round =>
        obtain ⟨j, hj, rfl, rfl, rfl⟩ := hrel
        have hgo := HGO.out j hj
        have htl := HTL.out
        have hjv : j * v ≤ m0 := Nat.le_trans (Nat.mul_le_mul_right v hj) htl
        have y0 := Y0.out
        have y1 := Y1.out
        have hrl : (O0 ++ reps t j).length + 4 * (m0 - j * v) ≤ 16000 := by
          rw [List.length_append, reps_len]
          have h4 : j * t.length ≤ 4 * (j * v) := by
            have : j * t.length ≤ j * (4 * v) := Nat.mul_le_mul_left j (by omega)
            rw [Nat.mul_comm 4 (j * v), Nat.mul_assoc, Nat.mul_comm v 4]; exact this
          omega
        have hrs : O0 ++ reps t (j + 1) = O0 ++ reps t j ++ t := by rw [reps_snoc, List.append_assoc]
        have hnj : m0 - (j + 1) * v = m0 - j * v - v := by rw [Nat.add_mul, Nat.one_mul]; omega
        have ha := addL (O0 ++ reps t j) t _ rfl (by rw [List.length_append]; omega)
        rw [← hrs] at ha
        obtain ⟨T, hT⟩ : ∃ T, T = O0 ++ reps t (j + 1) := ⟨_, rfl⟩
        rw [← hT] at ha
        have HT := Lib.hid hT
        obtain ⟨NJ, hNJ⟩ : ∃ NJ, NJ = ((m0 - (j + 1) * v : Nat) : Int) := ⟨_, rfl⟩
        have HNJ := Lib.hid hNJ
        by_cases hlast : j < TM
        · have hg := hgo.2 hlast
          unfold goes at hg
          obtain ⟨g1, g2⟩ := hg
          have hNJ2 : NJ = ((m0 - j * v : Nat) : Int) - (v : Int) := by rw [hNJ, hnj]; omega
          generalize hM : m0 - j * v = M at *
          generalize O0 ++ reps t j = U at *
          have f1 : (v : Int) ≤ (M : Int) := by omega
          have f2 : IntKind.i64.wrap ((M : Int) - (v : Int)) = NJ := by rw [hNJ2]; exact IntWalk.i64_in _ (by omega)
          have HM2 := Lib.hid hNJ2
          clear hrs hnj hT hNJ hM hgo htl hjv hNJ2
          by_cases e15 : v = 15
          · have dm : ((M : Int) == (v : Int)) = true := by simp; rcases g2 with g2 | g2 <;> omega
            have d15 : ((v : Int) != 15) = false := by simp; omega
            clear g1 g2 e15
            go_wp2_with fail
            go_roundw
            case rel => exact ⟨j + 1, by omega, by rw [← HNJ.out], by rw [← HT.out], by first | rfl | trivial⟩
            case measure => have := HM2.out; simp [intOf]; omega
          have d15 : ((v : Int) != 15) = true := by simp; omega
          by_cases e16 : v = 16
          · have dm : ((M : Int) == (v : Int)) = true := by simp; rcases g2 with g2 | g2 <;> omega
            have d16 : ((v : Int) != 16) = false := by simp; omega
            clear g1 g2 e16 e15
            go_wp2_with fail
            go_roundw
            case rel => exact ⟨j + 1, by omega, by rw [← HNJ.out], by rw [← HT.out], by first | rfl | trivial⟩
            case measure => have := HM2.out; simp [intOf]; omega
          have d16 : ((v : Int) != 16) = true := by simp; omega
          clear g1 g2 e16 e15
          go_wp2_with fail
          go_roundw
          case rel => exact ⟨j + 1, by omega, by rw [← HNJ.out], by rw [← HT.out], by first | rfl | trivial⟩
          case measure => have := HM2.out; simp [intOf]; omega
        · have hJ : j = TM := by omega
          have HJ := Lib.hid hJ
          have hno : ¬ goes 11 v (m0 - j * v) := fun h => hlast (hgo.1 h)
          unfold goes at hno
          clear ha hT hNJ hrs hnj hgo HT HNJ hlast
          by_cases g1 : v ≤ m0 - j * v
          · have g2 : ¬ (m0 - j * v = v) := fun h => hno ⟨g1, .inr h⟩
            have g3 : v = 15 ∨ v = 16 := by
              rcases Nat.decEq v 15 with h15 | h15
              · rcases Nat.decEq v 16 with h16 | h16
                · exact absurd ⟨g1, .inl (by omega)⟩ hno
                · exact .inr h16
              · exact .inl h15
            have dm : (((m0 - j * v : Nat) : Int) == (v : Int)) = false := by simp; omega
            have f1 : (v : Int) ≤ ((m0 - j * v : Nat) : Int) := by omega
            clear hno g2 hJ
            rcases g3 with e15 | e16
            · have d15 : ((v : Int) != 15) = false := by simp; omega
              clear e15
              go_wp2_with fail
              go_roundw
              case rel => exact ⟨k + 1, by omega, by go_num, by rw [HSU.out, HJ.out], by rw [HSU.out, HJ.out], PC.out⟩
              case measure => simp [intOf]; omega
            · have d15 : ((v : Int) != 15) = true := by simp; omega
              have d16 : ((v : Int) != 16) = false := by simp; omega
              clear e16
              go_wp2_with fail
              go_roundw
              case rel => exact ⟨k + 1, by omega, by go_num, by rw [HSU.out, HJ.out], by rw [HSU.out, HJ.out], PC.out⟩
              case measure => simp [intOf]; omega
          · have f1 : ¬ (v : Int) ≤ ((m0 - j * v : Nat) : Int) := by omega
            clear hno hJ g1
            go_wp2_with fail
            go_roundw
            case rel => exact ⟨k + 1, by omega, by go_num, by rw [HSU.out, HJ.out], by rw [HSU.out, HJ.out], PC.out⟩
            case measure => simp [intOf]; omega
    · obtain rfl : k = LN := by omega
      have HP := Lib.hid hp; clear hp
      go_wp2_with fail
      go_ret
      exact ⟨by rw [HR.out, HLEN.out]; rfl, HP.out.2⟩
end Go.Proofs.YticflmepmmdnfabDoor
