/- CycleOfs: the Go text returns true at every input, and writes nothing that was there. -/
import Derived.Test.YtghecclgaaklaaaCycle4
import Derived.ProofKit
import Derived.OpenShut
namespace Go.Proofs.Ytghecclgaaklaaa.cycleOfsLaw
set_option linter.unusedVariables false
set_option maxRecDepth 100000
open Go.RowKit Go.ChangeShapes Go.WideShapes Go.Joins

theorem lit0 : setErr [5, 7] [0, 0] = 0 := by decide
theorem lit1 : places 12 [5, 7] [0, 0] = [2, 5] := by decide
theorem then2 {w w' : World} {a : Option Addr} {n : Nat} {xs : List Int} (h : Ints w w.heap.size a n xs) (hb : Below w.heap.size w w') : Ints w' w'.heap.size a n xs := (h.below hb (Nat.le_refl _)).more hb.size
set_option maxHeartbeats 4000000 in
theorem core (w : World) (a1 a2 : Option Addr) (n1 c1 n2 c2 : Nat) (xs ys : List Int) (d : Int) (h1 : Ints w w.heap.size a1 n1 xs) (h2 : Ints w w.heap.size a2 n2 ys) :
    Calls Try.prog 6 #[.agg #[.slice a1 n1 c1, .slice a2 n2 c2], .int .i64 d] w fun e w' => e = .returned (.bool true) ∧ Below w.heap.size w w' := by
  have L1 := Lib.hid h1.1; have L2 := Lib.hid h2.1
  have mm1 := h1.2.1
  have H1 := Lib.hid h1; have H2 := Lib.hid h2; clear h1 h2
  have k1 : ∀ (o o1 o2 o3 : Obj), o1 = .cells #[.int .i64 5, .int .i64 7] 3 → Ints ((((w.alloc o).alloc o1).alloc o2).alloc o3) ((((w.alloc o).alloc o1).alloc o2).alloc o3).heap.size (some ⟨w.heap.size + 1, 0, none⟩) 2 [5, 7] :=
    fun o o1 o2 o3 h => At.ints [5, 7] (((At.new1 w o o1).alloc o2).alloc o3 |> fun x => by subst h; exact x) (by unfold I64; simp) (by simp)
  have k2 : ∀ (o o1 o2 o3 : Obj), o2 = .cells #[.int .i64 0, .int .i64 0] 3 → Ints ((((w.alloc o).alloc o1).alloc o2).alloc o3) ((((w.alloc o).alloc o1).alloc o2).alloc o3).heap.size (some ⟨w.heap.size + 1 + 1, 0, none⟩) 2 [0, 0] :=
    fun o o1 o2 o3 h => At.ints [0, 0] ((At.new2 w o o1 o2).alloc o3 |> fun x => by subst h; exact x) (by unfold I64; simp) (by simp)
  have K1 := Lib.hid k1; have K2 := Lib.hid k2; clear k1 k2
  go_enter Try.func6, Try.ntmps6
  go_wp2_with fail
  refine (cycle_Of_ok _ _ _ 2 2 2 2 [5, 7] [0, 0] 12 (by omega) (by omega) lit0 (K1.out _ _ _ _ rfl) (K2.out _ _ _ _ rfl)).mono ?_
  rw [lit1]
  rintro e w1 ⟨la0, lc0, rfl, hI0, hb⟩
  have a0 := (((At.new w (.cells #[.slice a1 n1 c1, .slice a2 n2 c2] 47)).alloc (.cells #[.int .i64 5, .int .i64 7] 3)).alloc (.cells #[.int .i64 0, .int .i64 0] 3)).alloc (.cells #[.slice (some ⟨w.heap.size + 1, 0, none⟩) 2 2, .slice (some ⟨w.heap.size + 1 + 1, 0, none⟩) 2 2] 47)
  replace a0 := a0.then_ hb
  have b0 : Below w.heap.size w w1 := by (repeat' (first | exact Below.refl _ _ | assumption | refine Below.drew ?_ | refine below_drewN ?_ _ | refine below_new ?_ _ | refine below_set ?_ ?_ _ | refine below_then ?_ (by assumption) | refine below_drawn ?_ (by assumption) | exact Nat.le_refl _ | omega | (simp; done) | (simp; omega)))
  have HI0 := Lib.hid hI0
  clear hb hI0 K1 K2
  go_wp2_with fail
  refine (ref_SameInts _ la0 (some ⟨w1.heap.size, 0, none⟩) 2 lc0 2 2 [2, 5] [2, 5] (then2 HI0.out (below_new (Below.refl _ _) _)) (At.ints [2, 5] (At.new w1 _) (by unfold I64; simp) (by simp))).mono ?_
  rw [show (([2, 5] : List Int) == [2, 5]) = true from rfl]
  rintro e w2 ⟨rfl, hdr⟩
  replace a0 := (a0.alloc (.cells #[.int .i64 2, .int .i64 5] 3)).drawn hdr
  replace b0 := below_drawn (below_new b0 (.cells #[.int .i64 2, .int .i64 5] 3)) hdr
  clear hdr HI0
  have d0 := a0.cell 0; have d1 := a0.cell 1; simp at d0 d1
  go_wp2_with fail
  by_cases q : setErr xs ys = 0
  case neg =>
    have q' : (setErr xs ys != 0) = true := by simpa using q
    refine (cycle_Of_err _ _ _ _ _ _ _ xs ys d q ((H1.out.below b0 (Nat.le_refl _)).more b0.size) ((H2.out.below b0 (Nat.le_refl _)).more b0.size)).mono ?_
    rintro e w3 ⟨rfl, hb⟩
    (replace a0 := a0.then_ hb); (replace b0 := below_then b0 hb); clear hb d0 d1; have d0 := a0.cell 0; have d1 := a0.cell 1; simp at d0 d1
    go_wp2_with fail
    refine (cycle_Full_err _ _ _ _ _ _ _ xs ys q ((H1.out.below b0 (Nat.le_refl _)).more b0.size) ((H2.out.below b0 (Nat.le_refl _)).more b0.size)).mono ?_
    rintro e w4 ⟨rfl, hb⟩
    (replace a0 := a0.then_ hb); (replace b0 := below_then b0 hb); clear hb d0 d1; have d0 := a0.cell 0; have d1 := a0.cell 1; simp at d0 d1
    clear q
    go_wp2_with fail
    refine (ref_SetError _ _ _ _ _ _ _ xs ys ((H1.out.below b0 (Nat.le_refl _)).more b0.size) ((H2.out.below b0 (Nat.le_refl _)).more b0.size)).mono ?_
    rintro e w5 ⟨rfl, hb⟩
    go_wp2_with fail
    go_ret
    exact ⟨by simp, by (repeat' (first | exact Below.refl _ _ | assumption | refine Below.drew ?_ | refine below_drewN ?_ _ | refine below_new ?_ _ | refine below_set ?_ ?_ _ | refine below_then ?_ (by assumption) | refine below_drawn ?_ (by assumption) | exact Nat.le_refl _ | omega | (simp; done) | (simp; omega)))⟩
  have ok := setOk_of q
  have HQ := Lib.hid q; have OK := Lib.hid ok; clear q ok
  obtain ⟨F, hFF⟩ : ∃ F, F = fullGo 1 xs := ⟨_, rfl⟩
  have HF := Lib.hid hFF; clear hFF
  rcases inB_cases (-4000000) 4000000 d with ⟨hd, dd1, dd2⟩ | ⟨hd, hd'⟩
  · refine (cycle_Of_ok _ _ _ _ _ _ _ xs ys d dd1 dd2 HQ.out ((H1.out.below b0 (Nat.le_refl _)).more b0.size) ((H2.out.below b0 (Nat.le_refl _)).more b0.size)).mono ?_
    rintro e w4 ⟨la, lc, rfl, hI, hb⟩
    (replace a0 := a0.then_ hb); (replace b0 := below_then b0 hb); clear hb d0 d1; have d0 := a0.cell 0; have d1 := a0.cell 1; simp at d0 d1
    have LI := Lib.hid hI; clear hI
    have PLN := Lib.hid (places_len d xs ys OK.out.len)
    go_wp2_with fail
    refine (cycle_Full_ok _ _ _ _ _ _ _ xs ys HQ.out ((H1.out.below b0 (Nat.le_refl _)).more b0.size) ((H2.out.below b0 (Nat.le_refl _)).more b0.size)).mono ?_
    by_cases hF : F ≤ 1000000000
    · rw [show fullOut xs = .tuple #[.int .i64 F, .int .i64 0] by rw [fullOut, ← HF.out]; exact if_pos hF]
      rintro e w5 ⟨rfl, hb⟩
      have li5 := then2 LI.out hb; have LI := Lib.hid li5; clear li5
      (replace a0 := a0.then_ hb); (replace b0 := below_then b0 hb); clear hb d0 d1; have d0 := a0.cell 0; have d1 := a0.cell 1; simp at d0 d1
      go_wp2_with fail
      refine (ref_SetError _ _ _ _ _ _ _ xs ys ((H1.out.below b0 (Nat.le_refl _)).more b0.size) ((H2.out.below b0 (Nat.le_refl _)).more b0.size)).mono ?_
      rw [HQ.out]
      rintro e w6 ⟨rfl, hb⟩
      have li6 := then2 LI.out hb; have LI := Lib.hid li6; clear li6
      (replace a0 := a0.then_ hb); (replace b0 := below_then b0 hb); clear hb d0 d1; have d0 := a0.cell 0; have d1 := a0.cell 1; simp at d0 d1
      go_wp2_with fail
      go_loop [13, 15, 67] (fun t _ i => ∃ (k : Nat) (A : Int), k ≤ n1 ∧ i = .int .i64 k ∧ t = .int .i64 A ∧ 1 ≤ A ∧ A ≤ 1000000000000 ∧ fullGo A (xs.drop k) = fullGo 1 xs) (fun _ _ i => n1 - (intOf i).toNat)
      case atStart => exact ⟨0, 1, by omega, rfl, rfl, by omega, by omega, by simp⟩
      case round =>
        obtain ⟨k, A, hk, rfl, rfl, A1, A3, hA⟩ := hrel
        have HA := Lib.hid hA; clear hA
        by_cases hlt : k < n1
        · obtain ⟨e1, o1, x, rfl, hb1, hc1, hx, x1, x2⟩ := (H1.out.below b0 (Nat.le_refl _)).at_ hlt
          have hyl : k < ys.length := by have := OK.out.len; have := L1.out; omega
          obtain ⟨p1, p2, p3, p4⟩ := OK.out.each k x _ hx (List.getElem?_eq_getElem hyl)
          have hdr : xs.drop k = x :: xs.drop (k + 1) := by
            obtain ⟨hl, rfl⟩ := List.getElem?_eq_some_iff.1 hx
            exact List.drop_eq_getElem_cons hl
          have hgo := HA.out
          rw [hdr, fullGo_cons] at hgo
          clear hx hdr p3 p4
          by_cases A2 : A ≤ 1000000000
          · rw [if_pos A2] at hgo
            obtain ⟨G, hG⟩ : ∃ G, G = (Int.gcd A x : Int) := ⟨_, rfl⟩
            have hq := quot_pos A x A1 p1
            have hg := gcd_pos A x A1
            have hgl : (Int.gcd A x : Int) ≤ A := Int.le_of_dvd (by omega) (Int.gcd_dvd_left _ _)
            have hlb := lcmI_bound' A x A1 A2 p1 p2
            have hl : lcmI A x = A / G * x := by rw [hG]; exact lcmI_eq _ _ A1 p1
            rw [← hG] at hq hg hgl
            rw [hl] at hlb hgo
            obtain ⟨_, _, q1, q2⟩ := hq
            obtain ⟨lb1, lb2⟩ := hlb
            have hT := fun W => ref_Gcd A x W (by omega) (by omega) (by omega) (by omega)
            rw [← hG] at hT
            have HT := Lib.hid hT; have HGO := Lib.hid hgo; clear hT hl hG hgo
            go_wp2_with fail
            refine (HT.out _).mono ?_; rintro e w7 ⟨rfl, rfl⟩
            go_wp2_with fail
            go_round
            case rel => exact ⟨k + 1, A / G * x, by omega, by go_num, rfl, lb1, lb2, HGO.out⟩
            case measure => simp [intOf]; omega
          · rw [if_neg A2] at hgo
            have HGO := Lib.hid hgo; clear hgo
            go_wp2_with fail
            go_round
            case rel => exact ⟨k + 1, A, by omega, by go_num, rfl, A1, A3, HGO.out⟩
            case measure => simp [intOf]; omega
        · have hfin : A = F := by
            have h := HA.out
            rw [List.drop_eq_nil_of_le (by have := L1.out; omega), fullGo] at h
            rw [HF.out]; exact h
          subst hfin
          clear HA
          go_wp2_with fail
          refine (ref_Day _ _).mono ?_; rw [hd]; rintro e w7 ⟨rfl, rfl⟩
          go_wp2_with fail
          refine (ref_SetAt _ _ _ _ _ _ _ xs ys d la n1 lc (places d xs ys) (by omega) (by omega) OK.out ((H1.out.below b0 (Nat.le_refl _)).more b0.size) ((H2.out.below b0 (Nat.le_refl _)).more b0.size) LI.out PLN.out).mono ?_
          rw [beq_self_eq_true]
          rintro e w7 ⟨rfl, hb⟩
          go_wp2_with fail
          go_ret
          exact ⟨by simp, by (repeat' (first | exact Below.refl _ _ | assumption | refine Below.drew ?_ | refine below_drewN ?_ _ | refine below_new ?_ _ | refine below_set ?_ ?_ _ | refine below_then ?_ (by assumption) | refine below_drawn ?_ (by assumption) | exact Nat.le_refl _ | omega | (simp; done) | (simp; omega)))⟩
    · rw [show fullOut xs = .tuple #[.int .i64 0, .int .i64 14] by rw [fullOut, ← HF.out]; exact if_neg hF]
      rintro e w5 ⟨rfl, hb⟩
      have li5 := then2 LI.out hb; have LI := Lib.hid li5; clear li5
      (replace a0 := a0.then_ hb); (replace b0 := below_then b0 hb); clear hb d0 d1; have d0 := a0.cell 0; have d1 := a0.cell 1; simp at d0 d1
      go_wp2_with fail
      refine (ref_SetError _ _ _ _ _ _ _ xs ys ((H1.out.below b0 (Nat.le_refl _)).more b0.size) ((H2.out.below b0 (Nat.le_refl _)).more b0.size)).mono ?_
      rw [HQ.out]
      rintro e w6 ⟨rfl, hb⟩
      have li6 := then2 LI.out hb; have LI := Lib.hid li6; clear li6
      (replace a0 := a0.then_ hb); (replace b0 := below_then b0 hb); clear hb d0 d1; have d0 := a0.cell 0; have d1 := a0.cell 1; simp at d0 d1
      go_wp2_with fail
      go_loop [13, 15, 67] (fun t _ i => ∃ (k : Nat) (A : Int), k ≤ n1 ∧ i = .int .i64 k ∧ t = .int .i64 A ∧ 1 ≤ A ∧ A ≤ 1000000000000 ∧ fullGo A (xs.drop k) = fullGo 1 xs) (fun _ _ i => n1 - (intOf i).toNat)
      case atStart => exact ⟨0, 1, by omega, rfl, rfl, by omega, by omega, by simp⟩
      case round =>
        obtain ⟨k, A, hk, rfl, rfl, A1, A3, hA⟩ := hrel
        have HA := Lib.hid hA; clear hA
        by_cases hlt : k < n1
        · obtain ⟨e1, o1, x, rfl, hb1, hc1, hx, x1, x2⟩ := (H1.out.below b0 (Nat.le_refl _)).at_ hlt
          have hyl : k < ys.length := by have := OK.out.len; have := L1.out; omega
          obtain ⟨p1, p2, p3, p4⟩ := OK.out.each k x _ hx (List.getElem?_eq_getElem hyl)
          have hdr : xs.drop k = x :: xs.drop (k + 1) := by
            obtain ⟨hl, rfl⟩ := List.getElem?_eq_some_iff.1 hx
            exact List.drop_eq_getElem_cons hl
          have hgo := HA.out
          rw [hdr, fullGo_cons] at hgo
          clear hx hdr p3 p4
          by_cases A2 : A ≤ 1000000000
          · rw [if_pos A2] at hgo
            obtain ⟨G, hG⟩ : ∃ G, G = (Int.gcd A x : Int) := ⟨_, rfl⟩
            have hq := quot_pos A x A1 p1
            have hg := gcd_pos A x A1
            have hgl : (Int.gcd A x : Int) ≤ A := Int.le_of_dvd (by omega) (Int.gcd_dvd_left _ _)
            have hlb := lcmI_bound' A x A1 A2 p1 p2
            have hl : lcmI A x = A / G * x := by rw [hG]; exact lcmI_eq _ _ A1 p1
            rw [← hG] at hq hg hgl
            rw [hl] at hlb hgo
            obtain ⟨_, _, q1, q2⟩ := hq
            obtain ⟨lb1, lb2⟩ := hlb
            have hT := fun W => ref_Gcd A x W (by omega) (by omega) (by omega) (by omega)
            rw [← hG] at hT
            have HT := Lib.hid hT; have HGO := Lib.hid hgo; clear hT hl hG hgo
            go_wp2_with fail
            refine (HT.out _).mono ?_; rintro e w7 ⟨rfl, rfl⟩
            go_wp2_with fail
            go_round
            case rel => exact ⟨k + 1, A / G * x, by omega, by go_num, rfl, lb1, lb2, HGO.out⟩
            case measure => simp [intOf]; omega
          · rw [if_neg A2] at hgo
            have HGO := Lib.hid hgo; clear hgo
            go_wp2_with fail
            go_round
            case rel => exact ⟨k + 1, A, by omega, by go_num, rfl, A1, A3, HGO.out⟩
            case measure => simp [intOf]; omega
        · have hfin : A = F := by
            have h := HA.out
            rw [List.drop_eq_nil_of_le (by have := L1.out; omega), fullGo] at h
            rw [HF.out]; exact h
          subst hfin
          clear HA
          go_wp2_with fail
          refine (ref_Day _ _).mono ?_; rw [hd]; rintro e w7 ⟨rfl, rfl⟩
          go_wp2_with fail
          refine (ref_SetAt _ _ _ _ _ _ _ xs ys d la n1 lc (places d xs ys) (by omega) (by omega) OK.out ((H1.out.below b0 (Nat.le_refl _)).more b0.size) ((H2.out.below b0 (Nat.le_refl _)).more b0.size) LI.out PLN.out).mono ?_
          rw [beq_self_eq_true]
          rintro e w7 ⟨rfl, hb⟩
          go_wp2_with fail
          go_ret
          exact ⟨by simp, by (repeat' (first | exact Below.refl _ _ | assumption | refine Below.drew ?_ | refine below_drewN ?_ _ | refine below_new ?_ _ | refine below_set ?_ ?_ _ | refine below_then ?_ (by assumption) | refine below_drawn ?_ (by assumption) | exact Nat.le_refl _ | omega | (simp; done) | (simp; omega)))⟩
  · refine (cycle_Of_range _ _ _ _ _ _ _ xs ys d HQ.out hd ((H1.out.below b0 (Nat.le_refl _)).more b0.size) ((H2.out.below b0 (Nat.le_refl _)).more b0.size)).mono ?_
    rintro e w4 ⟨rfl, hb⟩
    (replace a0 := a0.then_ hb); (replace b0 := below_then b0 hb); clear hb d0 d1; have d0 := a0.cell 0; have d1 := a0.cell 1; simp at d0 d1
    go_wp2_with fail
    refine (cycle_Full_ok _ _ _ _ _ _ _ xs ys HQ.out ((H1.out.below b0 (Nat.le_refl _)).more b0.size) ((H2.out.below b0 (Nat.le_refl _)).more b0.size)).mono ?_
    by_cases hF : F ≤ 1000000000
    · rw [show fullOut xs = .tuple #[.int .i64 F, .int .i64 0] by rw [fullOut, ← HF.out]; exact if_pos hF]
      rintro e w5 ⟨rfl, hb⟩
      (replace a0 := a0.then_ hb); (replace b0 := below_then b0 hb); clear hb d0 d1; have d0 := a0.cell 0; have d1 := a0.cell 1; simp at d0 d1
      go_wp2_with fail
      refine (ref_SetError _ _ _ _ _ _ _ xs ys ((H1.out.below b0 (Nat.le_refl _)).more b0.size) ((H2.out.below b0 (Nat.le_refl _)).more b0.size)).mono ?_
      rw [HQ.out]
      rintro e w6 ⟨rfl, hb⟩
      (replace a0 := a0.then_ hb); (replace b0 := below_then b0 hb); clear hb d0 d1; have d0 := a0.cell 0; have d1 := a0.cell 1; simp at d0 d1
      go_wp2_with fail
      go_loop [13, 15, 67] (fun t _ i => ∃ (k : Nat) (A : Int), k ≤ n1 ∧ i = .int .i64 k ∧ t = .int .i64 A ∧ 1 ≤ A ∧ A ≤ 1000000000000 ∧ fullGo A (xs.drop k) = fullGo 1 xs) (fun _ _ i => n1 - (intOf i).toNat)
      case atStart => exact ⟨0, 1, by omega, rfl, rfl, by omega, by omega, by simp⟩
      case round =>
        obtain ⟨k, A, hk, rfl, rfl, A1, A3, hA⟩ := hrel
        have HA := Lib.hid hA; clear hA
        by_cases hlt : k < n1
        · obtain ⟨e1, o1, x, rfl, hb1, hc1, hx, x1, x2⟩ := (H1.out.below b0 (Nat.le_refl _)).at_ hlt
          have hyl : k < ys.length := by have := OK.out.len; have := L1.out; omega
          obtain ⟨p1, p2, p3, p4⟩ := OK.out.each k x _ hx (List.getElem?_eq_getElem hyl)
          have hdr : xs.drop k = x :: xs.drop (k + 1) := by
            obtain ⟨hl, rfl⟩ := List.getElem?_eq_some_iff.1 hx
            exact List.drop_eq_getElem_cons hl
          have hgo := HA.out
          rw [hdr, fullGo_cons] at hgo
          clear hx hdr p3 p4
          by_cases A2 : A ≤ 1000000000
          · rw [if_pos A2] at hgo
            obtain ⟨G, hG⟩ : ∃ G, G = (Int.gcd A x : Int) := ⟨_, rfl⟩
            have hq := quot_pos A x A1 p1
            have hg := gcd_pos A x A1
            have hgl : (Int.gcd A x : Int) ≤ A := Int.le_of_dvd (by omega) (Int.gcd_dvd_left _ _)
            have hlb := lcmI_bound' A x A1 A2 p1 p2
            have hl : lcmI A x = A / G * x := by rw [hG]; exact lcmI_eq _ _ A1 p1
            rw [← hG] at hq hg hgl
            rw [hl] at hlb hgo
            obtain ⟨_, _, q1, q2⟩ := hq
            obtain ⟨lb1, lb2⟩ := hlb
            have hT := fun W => ref_Gcd A x W (by omega) (by omega) (by omega) (by omega)
            rw [← hG] at hT
            have HT := Lib.hid hT; have HGO := Lib.hid hgo; clear hT hl hG hgo
            go_wp2_with fail
            refine (HT.out _).mono ?_; rintro e w7 ⟨rfl, rfl⟩
            go_wp2_with fail
            go_round
            case rel => exact ⟨k + 1, A / G * x, by omega, by go_num, rfl, lb1, lb2, HGO.out⟩
            case measure => simp [intOf]; omega
          · rw [if_neg A2] at hgo
            have HGO := Lib.hid hgo; clear hgo
            go_wp2_with fail
            go_round
            case rel => exact ⟨k + 1, A, by omega, by go_num, rfl, A1, A3, HGO.out⟩
            case measure => simp [intOf]; omega
        · have hfin : A = F := by
            have h := HA.out
            rw [List.drop_eq_nil_of_le (by have := L1.out; omega), fullGo] at h
            rw [HF.out]; exact h
          subst hfin
          clear HA
          go_wp2_with fail
          refine (ref_Day _ _).mono ?_; rw [hd]; rintro e w7 ⟨rfl, rfl⟩
          go_wp2_with fail
          go_ret
          exact ⟨by simp, b0⟩
    · rw [show fullOut xs = .tuple #[.int .i64 0, .int .i64 14] by rw [fullOut, ← HF.out]; exact if_neg hF]
      rintro e w5 ⟨rfl, hb⟩
      (replace a0 := a0.then_ hb); (replace b0 := below_then b0 hb); clear hb d0 d1; have d0 := a0.cell 0; have d1 := a0.cell 1; simp at d0 d1
      go_wp2_with fail
      refine (ref_SetError _ _ _ _ _ _ _ xs ys ((H1.out.below b0 (Nat.le_refl _)).more b0.size) ((H2.out.below b0 (Nat.le_refl _)).more b0.size)).mono ?_
      rw [HQ.out]
      rintro e w6 ⟨rfl, hb⟩
      (replace a0 := a0.then_ hb); (replace b0 := below_then b0 hb); clear hb d0 d1; have d0 := a0.cell 0; have d1 := a0.cell 1; simp at d0 d1
      go_wp2_with fail
      go_loop [13, 15, 67] (fun t _ i => ∃ (k : Nat) (A : Int), k ≤ n1 ∧ i = .int .i64 k ∧ t = .int .i64 A ∧ 1 ≤ A ∧ A ≤ 1000000000000 ∧ fullGo A (xs.drop k) = fullGo 1 xs) (fun _ _ i => n1 - (intOf i).toNat)
      case atStart => exact ⟨0, 1, by omega, rfl, rfl, by omega, by omega, by simp⟩
      case round =>
        obtain ⟨k, A, hk, rfl, rfl, A1, A3, hA⟩ := hrel
        have HA := Lib.hid hA; clear hA
        by_cases hlt : k < n1
        · obtain ⟨e1, o1, x, rfl, hb1, hc1, hx, x1, x2⟩ := (H1.out.below b0 (Nat.le_refl _)).at_ hlt
          have hyl : k < ys.length := by have := OK.out.len; have := L1.out; omega
          obtain ⟨p1, p2, p3, p4⟩ := OK.out.each k x _ hx (List.getElem?_eq_getElem hyl)
          have hdr : xs.drop k = x :: xs.drop (k + 1) := by
            obtain ⟨hl, rfl⟩ := List.getElem?_eq_some_iff.1 hx
            exact List.drop_eq_getElem_cons hl
          have hgo := HA.out
          rw [hdr, fullGo_cons] at hgo
          clear hx hdr p3 p4
          by_cases A2 : A ≤ 1000000000
          · rw [if_pos A2] at hgo
            obtain ⟨G, hG⟩ : ∃ G, G = (Int.gcd A x : Int) := ⟨_, rfl⟩
            have hq := quot_pos A x A1 p1
            have hg := gcd_pos A x A1
            have hgl : (Int.gcd A x : Int) ≤ A := Int.le_of_dvd (by omega) (Int.gcd_dvd_left _ _)
            have hlb := lcmI_bound' A x A1 A2 p1 p2
            have hl : lcmI A x = A / G * x := by rw [hG]; exact lcmI_eq _ _ A1 p1
            rw [← hG] at hq hg hgl
            rw [hl] at hlb hgo
            obtain ⟨_, _, q1, q2⟩ := hq
            obtain ⟨lb1, lb2⟩ := hlb
            have hT := fun W => ref_Gcd A x W (by omega) (by omega) (by omega) (by omega)
            rw [← hG] at hT
            have HT := Lib.hid hT; have HGO := Lib.hid hgo; clear hT hl hG hgo
            go_wp2_with fail
            refine (HT.out _).mono ?_; rintro e w7 ⟨rfl, rfl⟩
            go_wp2_with fail
            go_round
            case rel => exact ⟨k + 1, A / G * x, by omega, by go_num, rfl, lb1, lb2, HGO.out⟩
            case measure => simp [intOf]; omega
          · rw [if_neg A2] at hgo
            have HGO := Lib.hid hgo; clear hgo
            go_wp2_with fail
            go_round
            case rel => exact ⟨k + 1, A, by omega, by go_num, rfl, A1, A3, HGO.out⟩
            case measure => simp [intOf]; omega
        · have hfin : A = F := by
            have h := HA.out
            rw [List.drop_eq_nil_of_le (by have := L1.out; omega), fullGo] at h
            rw [HF.out]; exact h
          subst hfin
          clear HA
          go_wp2_with fail
          refine (ref_Day _ _).mono ?_; rw [hd]; rintro e w7 ⟨rfl, rfl⟩
          go_wp2_with fail
          go_ret
          exact ⟨by simp, b0⟩
theorem walk {H : Type} {enc : TypeId × Value → H} {v0 v1 : Value} {d0 d1 : DataW H} {p0 p1 : List MemPlace} {base : Nat} (W : World)
    (o0 : Value.okWide Try.prog W .any base 47 v0) (h0 : DataW.Trod enc Try.prog W 0 (fun _ => true) true 47 v0 d0 p0)
    (o1 : Value.okWide Try.prog W .any base 3 v1) (h1 : DataW.Trod enc Try.prog W 0 (fun _ => true) true 3 v1 d1 p1) :
    Calls Try.prog 6 #[v0, v1] W fun e w' => e = .returned (.bool true) ∧ Below W.heap.size W w' := by
  obtain ⟨u0, u1, y0, y1, n, rfl, -, -, t0, t1⟩ := open_agg2 Try.underlying47 (by kernel_rfl) (by kernel_rfl) o0 h0
  obtain ⟨a1, n1, c1, xs, rfl, _, _, g1⟩ := open_Ints t0
  obtain ⟨a2, n2, c2, ys, rfl, _, _, g2⟩ := open_Ints t1
  obtain ⟨d, rfl, rfl, rfl, wd⟩ := open_int Try.underlying3 o1 h1
  exact core W a1 a2 n1 c1 n2 c2 xs ys d g1 g2
end Go.Proofs.Ytghecclgaaklaaa.cycleOfsLaw
