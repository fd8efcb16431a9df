/- Contract of span.show. -/
import Derived.Test.YtlpbaljoanfogabDoorSpn1
import Derived.Test.YtlpbaljoanfogabDoorLexSeq
namespace Go.Proofs.YtlpbaljoanfogabDoor
set_option linter.unusedVariables false
set_option linter.unusedSimpArgs false
set_option maxRecDepth 100000
open Go.RowKit Go.Shelf

/-- The parts ahead of number j. -/
def headP (x : Nat → Int) (j : Nat) : List (List UInt8) := ((List.range 4).take j).flatMap fun k => partP k (x k)
theorem headP_step (x : Nat → Int) {j : Nat} (h : j < 4) : headP x (j + 1) = headP x j ++ partP j (x j) := by
  unfold headP
  rw [List.take_add_one, List.flatMap_append]
  rcases (show j = 0 ∨ j = 1 ∨ j = 2 ∨ j = 3 by omega) with rfl | rfl | rfl | rfl <;> simp
theorem headP_all (x : Nat → Int) : headP x 4 = tailP x 0 := rfl
theorem headP_len (x : Nat → Int) : ∀ j, j ≤ 4 → (headP x j).length ≤ j
  | 0, _ => by simp [headP]
  | j + 1, h => by
    rw [headP_step x (by omega), List.length_append]
    have h1 := headP_len x j (by omega)
    have h2 : (partP j (x j)).length ≤ 1 := by unfold partP; split <;> simp
    omega
theorem headP_zero (x : Nat → Int) {j : Nat} (h : j < 4) (hz : x j = 0) : headP x (j + 1) = headP x j := by rw [headP_step x h, partP, if_pos hz, List.append_nil]
theorem headP_word (x : Nat → Int) {j : Nat} (h : j < 4) (hz : x j ≠ 0) {W : List UInt8} (hw : Lib.itoa (x j) ++ unK j = W) : headP x (j + 1) = headP x j ++ [W] := by rw [headP_step x h, partP, if_neg hz, hw]
theorem partP_size (k : Nat) (n : Int) (h : I64 n) : ∀ p ∈ partP k n, p.length ≤ 23 := by
  intro p hp
  unfold partP at hp
  split at hp
  · cases hp
  · simp at hp; subst hp
    have h1 := itoa_len21 h
    have h2 : (unK k).length ≤ 2 := by
      match k with
      | 0 => decide
      | 1 => decide
      | 2 => decide
      | 3 => decide
      | k + 4 => simp [unK]
    rw [List.length_append]; omega
theorem tailP_size (x : Nat → Int) (h : ∀ j, I64 (x j)) : ∀ p ∈ tailP x 0, p.length ≤ 23 := by
  intro p hp
  unfold tailP at hp
  obtain ⟨k, hk, hp⟩ := List.mem_flatMap.1 hp
  exact partP_size k _ (h k) p hp
theorem glue_size (c : UInt8) (m : Nat) : ∀ l : List (List UInt8), (∀ p ∈ l, p.length ≤ m) → (glue c l).length ≤ (m + 1) * l.length
  | [], _ => by simp [glue]
  | p :: l, h => by
    rw [glue, List.length_cons, List.length_append, List.length_cons, Nat.mul_add]
    have h1 := h p (by simp)
    have h2 := glue_size c m l fun q hq => h q (by simp [hq])
    omega
theorem join_size (c : UInt8) (m : Nat) (l : List (List UInt8)) (h : ∀ p ∈ l, p.length ≤ m) : (Lib.join l [c]).length ≤ (m + 1) * l.length := by
  cases l with
  | nil => simp [Lib.join, List.intercalate]
  | cons a r =>
    rw [join_glue, List.length_append, List.length_cons, Nat.mul_add]
    have h1 := h a (by simp)
    have h2 := glue_size c m r fun q hq => h q (by simp [hq])
    omega
theorem own_drewS {w : World} {base : Nat} {e : TypeId} {size : Nat} {v : Value} {n : Nat} {xs : List Value} (h : w.ownsRow base e size v n xs) : w.drew.ownsRow base e size v n xs := h
set_option maxHeartbeats 8000000 in
theorem span_show (x : Nat → Int) (w : World) (hx : ∀ j, I64 (x j)) (hp : Pow w) :
    Calls Tryd.prog 16 #[.agg (lenV x)] w fun e w' => e = .returned (.string ⟨(lenS x).toArray⟩) ∧ Below w.heap.size w w' := by
  obtain ⟨i0, hi, hz0, hz1, hz2⟩ := info_parts infoStr
  have HX := Lib.hid hx
  have HP := Lib.hid hp
  have CI := Lib.hid (fun (W : World) (hW : Below w.heap.size w W) (j : Nat) => lib_Itoa (x j) W (HX.out j).1 (HX.out j).2 (HP.out.below hW))
  obtain ⟨R, hR⟩ : ∃ R, R = lenS x := ⟨_, rfl⟩
  rw [← hR]
  have HR := Lib.hid hR
  clear hx hp hR
  have o0 := One.new w (lenO x)
  go_enter Tryd.func16, Tryd.ntmps16
  go_upto_region 2 with fail
  generalize World.alloc w _ = W0 at o0 ⊢
  have O0 := Lib.hid o0.2
  have o1 := o0.1
  clear o0
  have d0 := o1.cell 0; have d1 := o1.cell 1; have d2 := o1.cell 2; have d3 := o1.cell 3; simp at d0 d1 d2 d3
  clear o1
  go_wp2_with fail
  clear d0 d1 d2 d3
  go_loopw [3, 15] (fun l i wr => ∃ (j : Nat) (q : Int), q = (j : Int) ∧ j ≤ 4 ∧ i = .int .i64 q ∧ wr.ownsRow w.heap.size 9 1 l (headP x j).length ((headP x j).map strV) ∧ Below w.heap.size w wr) (fun l i _ => 4 - (intOf i).toNat)
  case atStart => exact ⟨0, 0, rfl, by omega, rfl, World.ownsRow_nil _ _ _ _, O0.out⟩
  case round =>
    obtain ⟨j, q, hq, hj, rfl, hown, hbel⟩ := hrel
    have BEL := Lib.hid hbel; have OWN := Lib.hid hown
    have hlen := headP_len x j hj
    by_cases hlt : j < 4
    · rcases (show j = 0 ∨ j = 1 ∨ j = 2 ∨ j = 3 by omega) with rfl | rfl | rfl | rfl
      · obtain rfl : q = 0 := by omega
        clear hlt hj hq hown hbel
        have ixn : ∀ W : World, (Instr.index 56 (.agg #[.int .i64 (x 0), .int .i64 (x 1), .int .i64 (x 2), .int .i64 (x 3)]) (.int .i64 0)).run Tryd.prog W = .ok (.int .i64 (x 0)) W := fun _ => by kernel_rfl
        have ixu : ∀ W : World, (Instr.index 67 (.agg #[.string ⟨#[121]⟩, .string ⟨#[109]⟩, .string ⟨#[100]⟩, .string ⟨#[109, 115]⟩]) (.int .i64 0)).run Tryd.prog W = .ok (.string ⟨#[121]⟩) W := fun _ => by kernel_rfl
        by_cases hz : x 0 = 0
        · have hce : (x 0 != 0) = false := by simpa using hz
          have HZ := Lib.hid hz
          clear hz
          go_wp2_with fail
          go_roundw
          case rel => exact ⟨1, 1, rfl, by omega, (by first | rfl | go_num), by rw [headP_zero x (by omega) HZ.out]; exact OWN.out, BEL.out⟩
          case measure => simp [intOf]
        · have hce : (x 0 != 0) = true := by simpa using hz
          obtain ⟨M, hM⟩ : ∃ M, M = Lib.itoa (x 0) := ⟨_, rfl⟩
          have hMe : itoaS (x 0) = ⟨M.toArray⟩ := by rw [hM]; rfl
          have hMl : M.length ≤ 21 := by rw [hM]; exact itoa_len21 (HX.out 0)
          have CJ := Lib.hid (show ∀ W : World, Below w.heap.size w W → Calls Tryd.prog 19 #[.int .i64 (x 0)] W fun e w' => e = .returned (.string ⟨M.toArray⟩) ∧ Below W.heap.size W w' from fun W hW => by rw [← hMe]; exact CI.out W hW 0)
          obtain ⟨T, hT⟩ : ∃ T, M ++ [121] = T := ⟨_, rfl⟩
          have hTl : T.length ≤ 23 := by rw [← hT]; simp; omega
          have HW := Lib.hid (headP_word x (j := 0) (by omega) hz (W := T) (by rw [← hT, hM]; rfl))
          have p1 := addL M [121] T hT (by omega)
          clear hM hMe hMl hT
          go_upto_region 6 with fail
          refine wp_region_held_drew (S := (fun _ => True)) (by kernel_rfl) ?_ (fun hHeld => ?_)
          · (try dsimp only); all_goals trivial
          refine lex_take (i := 0) (v := ?_) rfl (by kernel_rfl) (by kernel_rfl) (by kernel_rfl) (fun _ _ _ h => h) (by rfl) ?_ (by assumption) ?_
          rotate_left
          · (intro w hSw; (try dsimp only at hSw); go_simp; try with_reducible rfl)
          try simp only [Act.put, List.setIfInBounds_toArray, List.set_cons_zero, List.set_cons_succ]
          refine lex_take (i := 1) (v := ?_) rfl (by kernel_rfl) (by kernel_rfl) (by kernel_rfl) (fun _ _ _ h => h) (by rfl) ?_ (by assumption) ?_
          rotate_left
          · (intro w hSw; (try dsimp only at hSw); go_simp; try with_reducible rfl)
          try simp only [Act.put, List.setIfInBounds_toArray, List.set_cons_zero, List.set_cons_succ]
          refine lex_take (i := 3) (v := ?_) rfl (by kernel_rfl) (by kernel_rfl) (by kernel_rfl) (fun _ _ _ h => h) (by rfl) ?_ (by assumption) ?_
          rotate_left
          · (intro w hSw; (try dsimp only at hSw); go_simp; try with_reducible rfl)
          try simp only [Act.put, List.setIfInBounds_toArray, List.set_cons_zero, List.set_cons_succ]
          refine lex_take (i := 4) (v := ?_) rfl (by kernel_rfl) (by kernel_rfl) (by kernel_rfl) (fun _ _ _ h => h) (by rfl) ?_ (by assumption) ?_
          rotate_left
          · (intro w hSw; (try dsimp only at hSw); go_simp; try with_reducible rfl)
          try simp only [Act.put, List.setIfInBounds_toArray, List.set_cons_zero, List.set_cons_succ]
          refine lex_take (i := 5) (v := ?_) rfl (by kernel_rfl) (by kernel_rfl) (by kernel_rfl) (fun _ _ _ h => h) (by rfl) ?_ (by assumption) ?_
          rotate_left
          · (intro w hSw; (try dsimp only at hSw); go_simp; try with_reducible rfl)
          try simp only [Act.put, List.setIfInBounds_toArray, List.set_cons_zero, List.set_cons_succ]
          refine lex_step (i := 2) rfl (by kernel_rfl) (by rfl) (fun Kx hKx => ?_)
          (go_simp; go_at_call 19; (with_reducible refine (CJ.out _ BEL.out.drew).mono ?_); rintro e w3 ⟨rfl, hb⟩; try go_wp2_with fail)
          refine hKx.out _ _ ?_ (fun hHeld => ?_)
          · (try dsimp only); all_goals trivial
          clear hKx Kx
          try simp only [Act.put, List.setIfInBounds_toArray, List.set_cons_zero, List.set_cons_succ]
          have OWN3 := Lib.hid (own_thenS (own_drewS OWN.out) hb)
          have B3 := Lib.hid (below_then BEL.out.drew hb)
          have hz3 := B3.out.size
          clear hb OWN BEL hHeld
          refine lex_seq (fun _ => trivial) 6 rfl (by kernel_rfl) ?_
          simp only [List.drop_succ_cons, List.drop_zero]
          go_wp2_with (at_builtin; refine wpList_append_own _ rfl _ _ 57 rfl (w.heap.size) 9 i0 (.string ⟨#[]⟩) 1 16 Tryd.underlying57 hi hz0 hz1 hz2 rfl (by decide) _ _ _ rfl (OWN3.out.alloc _) ⟨w3.heap.size, 0, none⟩ 1 1 [.string ⟨T.toArray⟩] rfl rfl (World.news_of_block (cs := #[.string ⟨T.toArray⟩]) (t := 9) (fr := (0, 0)) (heap_alloc_new w3 _)) (by simp [Value.oneCell']) (by unfold maxLen; omega) (by omega) (by first | omega | (simp; omega)) ?_; intro v' w4 hown' hgrow _)
          have bw := (below_new B3.out (.cells #[.string ⟨T.toArray⟩] 9)).grown hgrow (by simp; omega) (fun bb hbb => own_base OWN3.out hbb)
          have OWN4 := Lib.hid hown'
          clear hown' hgrow OWN3
          go_wp2_with fail
          go_roundw
          case rel =>
            refine ⟨1, 1, rfl, by omega, (by first | rfl | go_num), ?_, bw⟩
            have := OWN4.out
            rw [HW.out, List.length_append, List.map_append]
            exact this
          case measure => simp [intOf]
      · obtain rfl : q = 1 := by omega
        clear hlt hj hq hown hbel
        have ixn : ∀ W : World, (Instr.index 56 (.agg #[.int .i64 (x 0), .int .i64 (x 1), .int .i64 (x 2), .int .i64 (x 3)]) (.int .i64 1)).run Tryd.prog W = .ok (.int .i64 (x 1)) W := fun _ => by kernel_rfl
        have ixu : ∀ W : World, (Instr.index 67 (.agg #[.string ⟨#[121]⟩, .string ⟨#[109]⟩, .string ⟨#[100]⟩, .string ⟨#[109, 115]⟩]) (.int .i64 1)).run Tryd.prog W = .ok (.string ⟨#[109]⟩) W := fun _ => by kernel_rfl
        by_cases hz : x 1 = 0
        · have hce : (x 1 != 0) = false := by simpa using hz
          have HZ := Lib.hid hz
          clear hz
          go_wp2_with fail
          go_roundw
          case rel => exact ⟨2, 2, rfl, by omega, (by first | rfl | go_num), by rw [headP_zero x (by omega) HZ.out]; exact OWN.out, BEL.out⟩
          case measure => simp [intOf]
        · have hce : (x 1 != 0) = true := by simpa using hz
          obtain ⟨M, hM⟩ : ∃ M, M = Lib.itoa (x 1) := ⟨_, rfl⟩
          have hMe : itoaS (x 1) = ⟨M.toArray⟩ := by rw [hM]; rfl
          have hMl : M.length ≤ 21 := by rw [hM]; exact itoa_len21 (HX.out 1)
          have CJ := Lib.hid (show ∀ W : World, Below w.heap.size w W → Calls Tryd.prog 19 #[.int .i64 (x 1)] W fun e w' => e = .returned (.string ⟨M.toArray⟩) ∧ Below W.heap.size W w' from fun W hW => by rw [← hMe]; exact CI.out W hW 1)
          obtain ⟨T, hT⟩ : ∃ T, M ++ [109] = T := ⟨_, rfl⟩
          have hTl : T.length ≤ 23 := by rw [← hT]; simp; omega
          have HW := Lib.hid (headP_word x (j := 1) (by omega) hz (W := T) (by rw [← hT, hM]; rfl))
          have p1 := addL M [109] T hT (by omega)
          clear hM hMe hMl hT
          go_upto_region 6 with fail
          refine wp_region_held_drew (S := (fun _ => True)) (by kernel_rfl) ?_ (fun hHeld => ?_)
          · (try dsimp only); all_goals trivial
          refine lex_take (i := 0) (v := ?_) rfl (by kernel_rfl) (by kernel_rfl) (by kernel_rfl) (fun _ _ _ h => h) (by rfl) ?_ (by assumption) ?_
          rotate_left
          · (intro w hSw; (try dsimp only at hSw); go_simp; try with_reducible rfl)
          try simp only [Act.put, List.setIfInBounds_toArray, List.set_cons_zero, List.set_cons_succ]
          refine lex_take (i := 1) (v := ?_) rfl (by kernel_rfl) (by kernel_rfl) (by kernel_rfl) (fun _ _ _ h => h) (by rfl) ?_ (by assumption) ?_
          rotate_left
          · (intro w hSw; (try dsimp only at hSw); go_simp; try with_reducible rfl)
          try simp only [Act.put, List.setIfInBounds_toArray, List.set_cons_zero, List.set_cons_succ]
          refine lex_take (i := 3) (v := ?_) rfl (by kernel_rfl) (by kernel_rfl) (by kernel_rfl) (fun _ _ _ h => h) (by rfl) ?_ (by assumption) ?_
          rotate_left
          · (intro w hSw; (try dsimp only at hSw); go_simp; try with_reducible rfl)
          try simp only [Act.put, List.setIfInBounds_toArray, List.set_cons_zero, List.set_cons_succ]
          refine lex_take (i := 4) (v := ?_) rfl (by kernel_rfl) (by kernel_rfl) (by kernel_rfl) (fun _ _ _ h => h) (by rfl) ?_ (by assumption) ?_
          rotate_left
          · (intro w hSw; (try dsimp only at hSw); go_simp; try with_reducible rfl)
          try simp only [Act.put, List.setIfInBounds_toArray, List.set_cons_zero, List.set_cons_succ]
          refine lex_take (i := 5) (v := ?_) rfl (by kernel_rfl) (by kernel_rfl) (by kernel_rfl) (fun _ _ _ h => h) (by rfl) ?_ (by assumption) ?_
          rotate_left
          · (intro w hSw; (try dsimp only at hSw); go_simp; try with_reducible rfl)
          try simp only [Act.put, List.setIfInBounds_toArray, List.set_cons_zero, List.set_cons_succ]
          refine lex_step (i := 2) rfl (by kernel_rfl) (by rfl) (fun Kx hKx => ?_)
          (go_simp; go_at_call 19; (with_reducible refine (CJ.out _ BEL.out.drew).mono ?_); rintro e w3 ⟨rfl, hb⟩; try go_wp2_with fail)
          refine hKx.out _ _ ?_ (fun hHeld => ?_)
          · (try dsimp only); all_goals trivial
          clear hKx Kx
          try simp only [Act.put, List.setIfInBounds_toArray, List.set_cons_zero, List.set_cons_succ]
          have OWN3 := Lib.hid (own_thenS (own_drewS OWN.out) hb)
          have B3 := Lib.hid (below_then BEL.out.drew hb)
          have hz3 := B3.out.size
          clear hb OWN BEL hHeld
          refine lex_seq (fun _ => trivial) 6 rfl (by kernel_rfl) ?_
          simp only [List.drop_succ_cons, List.drop_zero]
          go_wp2_with (at_builtin; refine wpList_append_own _ rfl _ _ 57 rfl (w.heap.size) 9 i0 (.string ⟨#[]⟩) 1 16 Tryd.underlying57 hi hz0 hz1 hz2 rfl (by decide) _ _ _ rfl (OWN3.out.alloc _) ⟨w3.heap.size, 0, none⟩ 1 1 [.string ⟨T.toArray⟩] rfl rfl (World.news_of_block (cs := #[.string ⟨T.toArray⟩]) (t := 9) (fr := (0, 0)) (heap_alloc_new w3 _)) (by simp [Value.oneCell']) (by unfold maxLen; omega) (by omega) (by first | omega | (simp; omega)) ?_; intro v' w4 hown' hgrow _)
          have bw := (below_new B3.out (.cells #[.string ⟨T.toArray⟩] 9)).grown hgrow (by simp; omega) (fun bb hbb => own_base OWN3.out hbb)
          have OWN4 := Lib.hid hown'
          clear hown' hgrow OWN3
          go_wp2_with fail
          go_roundw
          case rel =>
            refine ⟨2, 2, rfl, by omega, (by first | rfl | go_num), ?_, bw⟩
            have := OWN4.out
            rw [HW.out, List.length_append, List.map_append]
            exact this
          case measure => simp [intOf]
      · obtain rfl : q = 2 := by omega
        clear hlt hj hq hown hbel
        have ixn : ∀ W : World, (Instr.index 56 (.agg #[.int .i64 (x 0), .int .i64 (x 1), .int .i64 (x 2), .int .i64 (x 3)]) (.int .i64 2)).run Tryd.prog W = .ok (.int .i64 (x 2)) W := fun _ => by kernel_rfl
        have ixu : ∀ W : World, (Instr.index 67 (.agg #[.string ⟨#[121]⟩, .string ⟨#[109]⟩, .string ⟨#[100]⟩, .string ⟨#[109, 115]⟩]) (.int .i64 2)).run Tryd.prog W = .ok (.string ⟨#[100]⟩) W := fun _ => by kernel_rfl
        by_cases hz : x 2 = 0
        · have hce : (x 2 != 0) = false := by simpa using hz
          have HZ := Lib.hid hz
          clear hz
          go_wp2_with fail
          go_roundw
          case rel => exact ⟨3, 3, rfl, by omega, (by first | rfl | go_num), by rw [headP_zero x (by omega) HZ.out]; exact OWN.out, BEL.out⟩
          case measure => simp [intOf]
        · have hce : (x 2 != 0) = true := by simpa using hz
          obtain ⟨M, hM⟩ : ∃ M, M = Lib.itoa (x 2) := ⟨_, rfl⟩
          have hMe : itoaS (x 2) = ⟨M.toArray⟩ := by rw [hM]; rfl
          have hMl : M.length ≤ 21 := by rw [hM]; exact itoa_len21 (HX.out 2)
          have CJ := Lib.hid (show ∀ W : World, Below w.heap.size w W → Calls Tryd.prog 19 #[.int .i64 (x 2)] W fun e w' => e = .returned (.string ⟨M.toArray⟩) ∧ Below W.heap.size W w' from fun W hW => by rw [← hMe]; exact CI.out W hW 2)
          obtain ⟨T, hT⟩ : ∃ T, M ++ [100] = T := ⟨_, rfl⟩
          have hTl : T.length ≤ 23 := by rw [← hT]; simp; omega
          have HW := Lib.hid (headP_word x (j := 2) (by omega) hz (W := T) (by rw [← hT, hM]; rfl))
          have p1 := addL M [100] T hT (by omega)
          clear hM hMe hMl hT
          go_upto_region 6 with fail
          refine wp_region_held_drew (S := (fun _ => True)) (by kernel_rfl) ?_ (fun hHeld => ?_)
          · (try dsimp only); all_goals trivial
          refine lex_take (i := 0) (v := ?_) rfl (by kernel_rfl) (by kernel_rfl) (by kernel_rfl) (fun _ _ _ h => h) (by rfl) ?_ (by assumption) ?_
          rotate_left
          · (intro w hSw; (try dsimp only at hSw); go_simp; try with_reducible rfl)
          try simp only [Act.put, List.setIfInBounds_toArray, List.set_cons_zero, List.set_cons_succ]
          refine lex_take (i := 1) (v := ?_) rfl (by kernel_rfl) (by kernel_rfl) (by kernel_rfl) (fun _ _ _ h => h) (by rfl) ?_ (by assumption) ?_
          rotate_left
          · (intro w hSw; (try dsimp only at hSw); go_simp; try with_reducible rfl)
          try simp only [Act.put, List.setIfInBounds_toArray, List.set_cons_zero, List.set_cons_succ]
          refine lex_take (i := 3) (v := ?_) rfl (by kernel_rfl) (by kernel_rfl) (by kernel_rfl) (fun _ _ _ h => h) (by rfl) ?_ (by assumption) ?_
          rotate_left
          · (intro w hSw; (try dsimp only at hSw); go_simp; try with_reducible rfl)
          try simp only [Act.put, List.setIfInBounds_toArray, List.set_cons_zero, List.set_cons_succ]
          refine lex_take (i := 4) (v := ?_) rfl (by kernel_rfl) (by kernel_rfl) (by kernel_rfl) (fun _ _ _ h => h) (by rfl) ?_ (by assumption) ?_
          rotate_left
          · (intro w hSw; (try dsimp only at hSw); go_simp; try with_reducible rfl)
          try simp only [Act.put, List.setIfInBounds_toArray, List.set_cons_zero, List.set_cons_succ]
          refine lex_take (i := 5) (v := ?_) rfl (by kernel_rfl) (by kernel_rfl) (by kernel_rfl) (fun _ _ _ h => h) (by rfl) ?_ (by assumption) ?_
          rotate_left
          · (intro w hSw; (try dsimp only at hSw); go_simp; try with_reducible rfl)
          try simp only [Act.put, List.setIfInBounds_toArray, List.set_cons_zero, List.set_cons_succ]
          refine lex_step (i := 2) rfl (by kernel_rfl) (by rfl) (fun Kx hKx => ?_)
          (go_simp; go_at_call 19; (with_reducible refine (CJ.out _ BEL.out.drew).mono ?_); rintro e w3 ⟨rfl, hb⟩; try go_wp2_with fail)
          refine hKx.out _ _ ?_ (fun hHeld => ?_)
          · (try dsimp only); all_goals trivial
          clear hKx Kx
          try simp only [Act.put, List.setIfInBounds_toArray, List.set_cons_zero, List.set_cons_succ]
          have OWN3 := Lib.hid (own_thenS (own_drewS OWN.out) hb)
          have B3 := Lib.hid (below_then BEL.out.drew hb)
          have hz3 := B3.out.size
          clear hb OWN BEL hHeld
          refine lex_seq (fun _ => trivial) 6 rfl (by kernel_rfl) ?_
          simp only [List.drop_succ_cons, List.drop_zero]
          go_wp2_with (at_builtin; refine wpList_append_own _ rfl _ _ 57 rfl (w.heap.size) 9 i0 (.string ⟨#[]⟩) 1 16 Tryd.underlying57 hi hz0 hz1 hz2 rfl (by decide) _ _ _ rfl (OWN3.out.alloc _) ⟨w3.heap.size, 0, none⟩ 1 1 [.string ⟨T.toArray⟩] rfl rfl (World.news_of_block (cs := #[.string ⟨T.toArray⟩]) (t := 9) (fr := (0, 0)) (heap_alloc_new w3 _)) (by simp [Value.oneCell']) (by unfold maxLen; omega) (by omega) (by first | omega | (simp; omega)) ?_; intro v' w4 hown' hgrow _)
          have bw := (below_new B3.out (.cells #[.string ⟨T.toArray⟩] 9)).grown hgrow (by simp; omega) (fun bb hbb => own_base OWN3.out hbb)
          have OWN4 := Lib.hid hown'
          clear hown' hgrow OWN3
          go_wp2_with fail
          go_roundw
          case rel =>
            refine ⟨3, 3, rfl, by omega, (by first | rfl | go_num), ?_, bw⟩
            have := OWN4.out
            rw [HW.out, List.length_append, List.map_append]
            exact this
          case measure => simp [intOf]
      · obtain rfl : q = 3 := by omega
        clear hlt hj hq hown hbel
        have ixn : ∀ W : World, (Instr.index 56 (.agg #[.int .i64 (x 0), .int .i64 (x 1), .int .i64 (x 2), .int .i64 (x 3)]) (.int .i64 3)).run Tryd.prog W = .ok (.int .i64 (x 3)) W := fun _ => by kernel_rfl
        have ixu : ∀ W : World, (Instr.index 67 (.agg #[.string ⟨#[121]⟩, .string ⟨#[109]⟩, .string ⟨#[100]⟩, .string ⟨#[109, 115]⟩]) (.int .i64 3)).run Tryd.prog W = .ok (.string ⟨#[109, 115]⟩) W := fun _ => by kernel_rfl
        by_cases hz : x 3 = 0
        · have hce : (x 3 != 0) = false := by simpa using hz
          have HZ := Lib.hid hz
          clear hz
          go_wp2_with fail
          go_roundw
          case rel => exact ⟨4, 4, rfl, by omega, (by first | rfl | go_num), by rw [headP_zero x (by omega) HZ.out]; exact OWN.out, BEL.out⟩
          case measure => simp [intOf]
        · have hce : (x 3 != 0) = true := by simpa using hz
          obtain ⟨M, hM⟩ : ∃ M, M = Lib.itoa (x 3) := ⟨_, rfl⟩
          have hMe : itoaS (x 3) = ⟨M.toArray⟩ := by rw [hM]; rfl
          have hMl : M.length ≤ 21 := by rw [hM]; exact itoa_len21 (HX.out 3)
          have CJ := Lib.hid (show ∀ W : World, Below w.heap.size w W → Calls Tryd.prog 19 #[.int .i64 (x 3)] W fun e w' => e = .returned (.string ⟨M.toArray⟩) ∧ Below W.heap.size W w' from fun W hW => by rw [← hMe]; exact CI.out W hW 3)
          obtain ⟨T, hT⟩ : ∃ T, M ++ [109, 115] = T := ⟨_, rfl⟩
          have hTl : T.length ≤ 23 := by rw [← hT]; simp; omega
          have HW := Lib.hid (headP_word x (j := 3) (by omega) hz (W := T) (by rw [← hT, hM]; rfl))
          have p1 := addL M [109, 115] T hT (by omega)
          clear hM hMe hMl hT
          go_upto_region 6 with fail
          refine wp_region_held_drew (S := (fun _ => True)) (by kernel_rfl) ?_ (fun hHeld => ?_)
          · (try dsimp only); all_goals trivial
          refine lex_take (i := 0) (v := ?_) rfl (by kernel_rfl) (by kernel_rfl) (by kernel_rfl) (fun _ _ _ h => h) (by rfl) ?_ (by assumption) ?_
          rotate_left
          · (intro w hSw; (try dsimp only at hSw); go_simp; try with_reducible rfl)
          try simp only [Act.put, List.setIfInBounds_toArray, List.set_cons_zero, List.set_cons_succ]
          refine lex_take (i := 1) (v := ?_) rfl (by kernel_rfl) (by kernel_rfl) (by kernel_rfl) (fun _ _ _ h => h) (by rfl) ?_ (by assumption) ?_
          rotate_left
          · (intro w hSw; (try dsimp only at hSw); go_simp; try with_reducible rfl)
          try simp only [Act.put, List.setIfInBounds_toArray, List.set_cons_zero, List.set_cons_succ]
          refine lex_take (i := 3) (v := ?_) rfl (by kernel_rfl) (by kernel_rfl) (by kernel_rfl) (fun _ _ _ h => h) (by rfl) ?_ (by assumption) ?_
          rotate_left
          · (intro w hSw; (try dsimp only at hSw); go_simp; try with_reducible rfl)
          try simp only [Act.put, List.setIfInBounds_toArray, List.set_cons_zero, List.set_cons_succ]
          refine lex_take (i := 4) (v := ?_) rfl (by kernel_rfl) (by kernel_rfl) (by kernel_rfl) (fun _ _ _ h => h) (by rfl) ?_ (by assumption) ?_
          rotate_left
          · (intro w hSw; (try dsimp only at hSw); go_simp; try with_reducible rfl)
          try simp only [Act.put, List.setIfInBounds_toArray, List.set_cons_zero, List.set_cons_succ]
          refine lex_take (i := 5) (v := ?_) rfl (by kernel_rfl) (by kernel_rfl) (by kernel_rfl) (fun _ _ _ h => h) (by rfl) ?_ (by assumption) ?_
          rotate_left
          · (intro w hSw; (try dsimp only at hSw); go_simp; try with_reducible rfl)
          try simp only [Act.put, List.setIfInBounds_toArray, List.set_cons_zero, List.set_cons_succ]
          refine lex_step (i := 2) rfl (by kernel_rfl) (by rfl) (fun Kx hKx => ?_)
          (go_simp; go_at_call 19; (with_reducible refine (CJ.out _ BEL.out.drew).mono ?_); rintro e w3 ⟨rfl, hb⟩; try go_wp2_with fail)
          refine hKx.out _ _ ?_ (fun hHeld => ?_)
          · (try dsimp only); all_goals trivial
          clear hKx Kx
          try simp only [Act.put, List.setIfInBounds_toArray, List.set_cons_zero, List.set_cons_succ]
          have OWN3 := Lib.hid (own_thenS (own_drewS OWN.out) hb)
          have B3 := Lib.hid (below_then BEL.out.drew hb)
          have hz3 := B3.out.size
          clear hb OWN BEL hHeld
          refine lex_seq (fun _ => trivial) 6 rfl (by kernel_rfl) ?_
          simp only [List.drop_succ_cons, List.drop_zero]
          go_wp2_with (at_builtin; refine wpList_append_own _ rfl _ _ 57 rfl (w.heap.size) 9 i0 (.string ⟨#[]⟩) 1 16 Tryd.underlying57 hi hz0 hz1 hz2 rfl (by decide) _ _ _ rfl (OWN3.out.alloc _) ⟨w3.heap.size, 0, none⟩ 1 1 [.string ⟨T.toArray⟩] rfl rfl (World.news_of_block (cs := #[.string ⟨T.toArray⟩]) (t := 9) (fr := (0, 0)) (heap_alloc_new w3 _)) (by simp [Value.oneCell']) (by unfold maxLen; omega) (by omega) (by first | omega | (simp; omega)) ?_; intro v' w4 hown' hgrow _)
          have bw := (below_new B3.out (.cells #[.string ⟨T.toArray⟩] 9)).grown hgrow (by simp; omega) (fun bb hbb => own_base OWN3.out hbb)
          have OWN4 := Lib.hid hown'
          clear hown' hgrow OWN3
          go_wp2_with fail
          go_roundw
          case rel =>
            refine ⟨4, 4, rfl, by omega, (by first | rfl | go_num), ?_, bw⟩
            have := OWN4.out
            rw [HW.out, List.length_append, List.map_append]
            exact this
          case measure => simp [intOf]
    · obtain rfl : j = 4 := by omega
      obtain rfl : q = 4 := by omega
      clear hlt hj hq
      rw [headP_all x] at hown hlen
      have HB := Lib.hid hbel
      clear hbel BEL OWN
      by_cases h0 : tailP x 0 = []
      · obtain rfl : R = [48, 100] := by rw [HR.out, lenS, if_pos h0]
        rw [h0] at hown
        rcases hown.2 with ⟨rfl, _⟩ | ⟨g, cap, cur, rfl, _⟩
        · clear hown
          go_wp2_with fail
          go_ret
          exact ⟨rfl, HB.out⟩
        · clear hown
          go_wp2_with fail
          go_ret
          exact ⟨rfl, HB.out⟩
      · obtain ⟨n, hn⟩ : ∃ n, n = (tailP x 0).length := ⟨_, rfl⟩
        have hn0 : 0 < n := by rw [hn]; exact List.length_pos_iff.2 h0
        rw [← hn] at hown hlen
        have hRe : R = Lib.join (tailP x 0) [32] := by rw [HR.out, lenS, if_neg h0]
        have hRl : R.length ≤ 96 := by
          rw [hRe]
          refine Nat.le_trans (join_size 32 23 _ (tailP_size x HX.out)) ?_
          rw [← hn]; omega
        obtain ⟨g, cp, rfl, hcp, hg, hcells⟩ := own_strs hown hn.symm (by omega)
        have CJ := Lib.hid (show Calls Tryd.prog 33 #[.slice (some ⟨g, 0, none⟩) n cp, .string ⟨#[32]⟩] wr (fun e w' => e = .returned (.string ⟨R.toArray⟩) ∧ Below wr.heap.size wr w') from by
          have e : ((tailP x 0).map fun l => (⟨l.toArray⟩ : ByteArray)).map (·.data.toList) = tailP x 0 := by rw [List.map_map]; simp [Function.comp_def]
          have h0 := Any.strings_Join Tryd.laysn156 extraJR g 0 cp ((tailP x 0).map fun l => (⟨l.toArray⟩ : ByteArray)) ⟨#[32]⟩ wr (fun i x hx => by
            rw [List.getElem?_map, Option.map_eq_some_iff] at hx
            obtain ⟨l, hl, rfl⟩ := hx
            exact hcells i l hl) hg (by rw [List.length_map, ← hn]; omega) (by rw [List.length_map, ← hn]; exact hcp) (by
            rw [e]; show (Lib.join (tailP x 0) [32]).length ≤ _; rw [← hRe]; omega)
          rw [e, List.length_map, ← hn] at h0
          rw [hRe]
          exact h0)
        have hne : ((n : Int) == 0) = false := by simpa using (by omega : ¬ (n : Int) = 0)
        clear hown hcells hRe hRl hn hlen h0
        go_wp2_with fail
        refine CJ.out.mono ?_
        rintro e W5 ⟨rfl, hb⟩
        have O5 := Lib.hid (below_then HB.out hb)
        clear hb
        go_wp2_with fail
        go_ret
        exact ⟨rfl, O5.out⟩
end Go.Proofs.YtlpbaljoanfogabDoor
