/- Contracts of numeral.chineseDigit and numeral.writeChinese. -/
import Derived.Test.YticflmepmmdnfabDoorNml4
namespace Go.Proofs.YticflmepmmdnfabDoor
set_option linter.unusedVariables false
set_option linter.unusedSimpArgs false
set_option maxRecDepth 100000
open Go.RowKit Go.Shelf Nml

def cCp (n : Nat) : Int := ([12295, 19968, 20108, 19977, 22235, 20116, 20845, 19971, 20843, 20061] : List Int).getD n 0
theorem c_idx (n : Nat) (hn : n < 10) : ∀ W : World, (Instr.index 101 (.agg #[.int .i32 12295, .int .i32 19968, .int .i32 20108, .int .i32 19977, .int .i32 22235, .int .i32 20116, .int .i32 20845, .int .i32 19971, .int .i32 20843, .int .i32 20061]) (.int .i64 (n : Int))).run Tryd.prog W = .ok (.int .i32 (cCp n)) W := by
  have h2 : n = 0 ∨ n = 1 ∨ n = 2 ∨ n = 3 ∨ n = 4 ∨ n = 5 ∨ n = 6 ∨ n = 7 ∨ n = 8 ∨ n = 9 := by omega
  clear hn
  rcases h2 with rfl | rfl | rfl | rfl | rfl | rfl | rfl | rfl | rfl | rfl <;> intro W <;> kernel_rfl
theorem c_enc (n : Nat) (hn : n < 10) : Utf8.encode (cCp n) = ⟨(chD n).toArray⟩ := by
  have h2 : n = 0 ∨ n = 1 ∨ n = 2 ∨ n = 3 ∨ n = 4 ∨ n = 5 ∨ n = 6 ∨ n = 7 ∨ n = 8 ∨ n = 9 := by omega
  clear hn
  rcases h2 with rfl | rfl | rfl | rfl | rfl | rfl | rfl | rfl | rfl | rfl <;> decide +kernel
theorem chD_len (n : Nat) : (chD n).length ≤ 3 := by
  by_cases h : n < 10
  · have h2 : n = 0 ∨ n = 1 ∨ n = 2 ∨ n = 3 ∨ n = 4 ∨ n = 5 ∨ n = 6 ∨ n = 7 ∨ n = 8 ∨ n = 9 := by omega
    clear h
    rcases h2 with rfl | rfl | rfl | rfl | rfl | rfl | rfl | rfl | rfl | rfl <;> decide +kernel
  · unfold chD
    rw [List.getD_eq_getElem?_getD, List.getElem?_eq_none (by simp; omega)]; simp
set_option maxHeartbeats 4000000 in
theorem num_chineseDigit (n : Int) (w : World) (h0 : 0 ≤ n) (h1 : n < 10) :
    Calls Tryd.prog 61 #[.int .i64 n] w fun e w' => e = .returned (.string ⟨(chD n.toNat).toArray⟩) ∧ w = w' := by
  have i1 := c_idx n.toNat (by omega)
  have HE := Lib.hid (c_enc n.toNat (by omega))
  rw [show ((n.toNat : Nat) : Int) = n by omega] at i1
  generalize cCp n.toNat = C at i1 HE
  go_enter Tryd.func61, Tryd.ntmps61
  go_wp2_with fail
  go_ret
  exact ⟨by rw [← HE.out]; rfl, rfl⟩
/-- The state behind k places. -/
def chSt (n k : Nat) : List UInt8 × Bool := (chP.take k).foldl (chStep n) ([], false)
theorem chSt_succ (n k : Nat) (p : Nat × List UInt8) (h : chP[k]? = some p) : chSt n (k + 1) = chStep n (chSt n k) p := by
  unfold chSt
  rw [List.take_add_one, h, List.foldl_append]; rfl
theorem chStep_len (n : Nat) (st : List UInt8 × Bool) (p : Nat × List UInt8) (hp : p.2.length ≤ 3) : (chStep n st p).1.length ≤ st.1.length + 10 := by
  have h1 := chD_len 0
  have h2 := chD_len (n / p.1 % 10)
  unfold chStep
  split
  · simp
  · split <;> simp only [List.length_append] <;> omega
theorem chP_get (k : Nat) (p : Nat × List UInt8) (h : chP[k]? = some p) : p.2.length ≤ 3 := by
  match k, h with
  | 0, h => injection h with h; subst h; decide
  | 1, h => injection h with h; subst h; decide
  | 2, h => injection h with h; subst h; decide
  | 3, h => injection h with h; subst h; decide
  | k + 4, h => simp [chP] at h
theorem chSt_len (n : Nat) : ∀ k, (chSt n k).1.length ≤ 10 * k
  | 0 => by simp [chSt]
  | k + 1 => by
    have ih := chSt_len n k
    cases hp : chP[k]? with
    | some p =>
      rw [chSt_succ n k p hp]
      have := chStep_len n (chSt n k) p (chP_get k p hp)
      omega
    | none =>
      have : chSt n (k + 1) = chSt n k := by unfold chSt; rw [List.take_add_one, hp]; simp
      rw [this]; omega
theorem pt_list (l : List UInt8) : (⟨l.toArray⟩ : ByteArray).toList = l := by rw [str_list]
theorem ch_idx0 : ∀ W : World, (Instr.index 86 (.agg #[.string ⟨#[229, 141, 131]⟩, .string ⟨#[231, 153, 190]⟩, .string ⟨#[229, 141, 129]⟩, .string ⟨#[]⟩]) (.int .i64 0)).run Tryd.prog W = .ok (.string ⟨#[229, 141, 131]⟩) W := fun W => by kernel_rfl
theorem ch_idx1 : ∀ W : World, (Instr.index 86 (.agg #[.string ⟨#[229, 141, 131]⟩, .string ⟨#[231, 153, 190]⟩, .string ⟨#[229, 141, 129]⟩, .string ⟨#[]⟩]) (.int .i64 1)).run Tryd.prog W = .ok (.string ⟨#[231, 153, 190]⟩) W := fun W => by kernel_rfl
theorem ch_idx2 : ∀ W : World, (Instr.index 86 (.agg #[.string ⟨#[229, 141, 131]⟩, .string ⟨#[231, 153, 190]⟩, .string ⟨#[229, 141, 129]⟩, .string ⟨#[]⟩]) (.int .i64 2)).run Tryd.prog W = .ok (.string ⟨#[229, 141, 129]⟩) W := fun W => by kernel_rfl
theorem ch_idx3 : ∀ W : World, (Instr.index 86 (.agg #[.string ⟨#[229, 141, 131]⟩, .string ⟨#[231, 153, 190]⟩, .string ⟨#[229, 141, 129]⟩, .string ⟨#[]⟩]) (.int .i64 3)).run Tryd.prog W = .ok (.string ⟨#[]⟩) W := fun W => by kernel_rfl
set_option maxHeartbeats 16000000 in
theorem num_writeChinese (n : Int) (w : World) (h0 : 0 ≤ n) (h1 : n < 10000) :
    Calls Tryd.prog 45 #[.int .i64 n] w fun e w' => e = .returned (.string ⟨(chS n.toNat).toArray⟩) ∧ w = w' := by
  by_cases hz : n = 0
  · subst hz
    have C0 := Lib.hid (fun W => num_chineseDigit 0 W (by omega) (by omega))
    go_enter Tryd.func45, Tryd.ntmps45
    go_wp2_with fail
    refine (C0.out _).mono ?_
    rintro e w1 ⟨rfl, rfl⟩
    go_wp2_with fail
    go_ret
    exact ⟨rfl, rfl⟩
  · have d0 : (n == 0) = false := by simpa using hz
    have HR := Lib.hid (show chS n.toNat = (chSt n.toNat 4).1 by unfold chS; rw [if_neg (by omega)]; rfl)
    have CD := Lib.hid (fun (d : Int) W (q0 : 0 ≤ d) (q1 : d < 10) => num_chineseDigit d W q0 q1)
    clear hz
    go_enter Tryd.func45, Tryd.ntmps45
    go_wp2_with fail
    go_loopw [3, 4, 5, 13] (fun s z p i wr => ∃ k : Nat, k ≤ 4 ∧ i = .int .i64 k ∧ p = .int .i64 (([1000, 100, 10, 1, 0] : List Int).getD k 0) ∧ s = .string ⟨(chSt n.toNat k).1.toArray⟩ ∧ z = .bool (chSt n.toNat k).2 ∧ wr = w) (fun _ _ _ i _ => 4 - (intOf i).toNat)
    case atStart => exact ⟨0, by omega, rfl, rfl, rfl, rfl, rfl⟩
    case round =>
      obtain ⟨k, hk, rfl, rfl, rfl, rfl, rfl⟩ := hrel
      have hlen := chSt_len n.toNat k
      have hk4 : k = 0 ∨ k = 1 ∨ k = 2 ∨ k = 3 ∨ k = 4 := by omega
      clear hk
      rcases hk4 with rfl | rfl | rfl | rfl | rfl
      · have hs := chSt_succ n.toNat 0 (1000, [229, 141, 131]) rfl
        have ix := ch_idx0
        generalize chSt n.toNat 0 = st at hs hlen ⊢
        obtain ⟨S, z⟩ := st
        simp only [] at hs hlen ⊢
        by_cases hd : n / 1000 % 10 = 0
        · have dd : (n / 1000 % 10 == 0) = true := by simpa using hd
          have hs' : chSt n.toNat (0 + 1) = (S, !S.isEmpty) := by rw [hs]; unfold chStep; rw [if_pos (show n.toNat / 1000 % 10 = 0 by omega)]
          have HS := Lib.hid hs'
          clear hs hs' hd
          obtain ⟨SB, hSB⟩ : ∃ SB : ByteArray, SB = ⟨S.toArray⟩ := ⟨_, rfl⟩
          have HL := Lib.hid (show SB.toList = S by rw [hSB]; exact pt_list S)
          rw [← hSB]
          have HSB := Lib.hid hSB; clear hSB
          go_wp2_with fail
          go_roundw
          case rel => exact ⟨1, by omega, by go_num, by first | rfl | (congr 1; omega), by rw [HS.out, HSB.out], by (rw [HS.out, ← HL.out]) <;> rfl, trivial⟩
          case measure => simp [intOf]
        · have dd : (n / 1000 % 10 == 0) = false := by simpa using hd
          have C1 := CD.out (n / 1000 % 10)
          have lD := chD_len (n / 1000 % 10).toNat
          have l0 := chD_len 0
          have hs' : chSt n.toNat (0 + 1) = ((if z then S ++ chD 0 else S) ++ (chD (n / 1000 % 10).toNat ++ [229, 141, 131]), false) := by
            rw [hs]; unfold chStep; rw [if_neg (show ¬ n.toNat / 1000 % 10 = 0 by omega), show (n / 1000 % 10).toNat = n.toNat / 1000 % 10 by omega]
          have C0 := CD.out 0
          rw [show (0 : Int).toNat = 0 from rfl] at C0
          generalize chD (n / 1000 % 10).toNat = D at C1 hs' lD
          generalize chD 0 = Z at C0 hs' l0
          have C0 := Lib.hid C0; have C1 := Lib.hid C1
          have a1 := addL D [229, 141, 131] _ rfl (by rw [List.length_append]; simp only [List.length_cons, List.length_nil]; omega)
          cases z with
          | true =>
            have a0 := addL S Z _ rfl (by rw [List.length_append]; omega)
            have a2 := addL (S ++ Z) (D ++ [229, 141, 131]) _ rfl (by rw [List.length_append, List.length_append, List.length_append]; simp only [List.length_cons, List.length_nil]; omega)
            rw [if_pos rfl] at hs'
            obtain ⟨T0, hT0⟩ : ∃ T, T = S ++ Z := ⟨_, rfl⟩
            rw [← hT0] at a0 a2 hs'
            obtain ⟨T1, hT1⟩ : ∃ T, T = D ++ [229, 141, 131] := ⟨_, rfl⟩
            rw [← hT1] at a1 a2 hs'
            obtain ⟨T2, hT2⟩ : ∃ T, T = T0 ++ T1 := ⟨_, rfl⟩
            rw [← hT2] at a2 hs'
            have HS := Lib.hid hs'
            clear hs hs' hd hT0 hT1 hT2 lD l0
            go_wp2_with fail
            refine (C0.out _ (by omega) (by omega)).mono ?_
            rintro e w1 ⟨rfl, rfl⟩
            go_wp2_with fail
            refine (C1.out _ (by omega) (by omega)).mono ?_
            rintro e w2 ⟨rfl, rfl⟩
            go_wp2_with fail
            go_roundw
            case rel => exact ⟨1, by omega, by go_num, by first | rfl | (congr 1; omega), by rw [HS.out], by rw [HS.out], trivial⟩
            case measure => simp [intOf]
          | false =>
            rw [if_neg (by simp)] at hs'
            have a2 := addL S (D ++ [229, 141, 131]) _ rfl (by rw [List.length_append, List.length_append]; simp only [List.length_cons, List.length_nil]; omega)
            obtain ⟨T1, hT1⟩ : ∃ T, T = D ++ [229, 141, 131] := ⟨_, rfl⟩
            rw [← hT1] at a1 a2 hs'
            obtain ⟨T2, hT2⟩ : ∃ T, T = S ++ T1 := ⟨_, rfl⟩
            rw [← hT2] at a2 hs'
            have HS := Lib.hid hs'
            clear hs hs' hd hT1 hT2 lD l0
            go_wp2_with fail
            refine (C1.out _ (by omega) (by omega)).mono ?_
            rintro e w2 ⟨rfl, rfl⟩
            go_wp2_with fail
            go_roundw
            case rel => exact ⟨1, by omega, by go_num, by first | rfl | (congr 1; omega), by rw [HS.out], by rw [HS.out], trivial⟩
            case measure => simp [intOf]
      · have hs := chSt_succ n.toNat 1 (100, [231, 153, 190]) rfl
        have ix := ch_idx1
        generalize chSt n.toNat 1 = st at hs hlen ⊢
        obtain ⟨S, z⟩ := st
        simp only [] at hs hlen ⊢
        by_cases hd : n / 100 % 10 = 0
        · have dd : (n / 100 % 10 == 0) = true := by simpa using hd
          have hs' : chSt n.toNat (1 + 1) = (S, !S.isEmpty) := by rw [hs]; unfold chStep; rw [if_pos (show n.toNat / 100 % 10 = 0 by omega)]
          have HS := Lib.hid hs'
          clear hs hs' hd
          obtain ⟨SB, hSB⟩ : ∃ SB : ByteArray, SB = ⟨S.toArray⟩ := ⟨_, rfl⟩
          have HL := Lib.hid (show SB.toList = S by rw [hSB]; exact pt_list S)
          rw [← hSB]
          have HSB := Lib.hid hSB; clear hSB
          go_wp2_with fail
          go_roundw
          case rel => exact ⟨2, by omega, by go_num, by first | rfl | (congr 1; omega), by rw [HS.out, HSB.out], by (rw [HS.out, ← HL.out]) <;> rfl, trivial⟩
          case measure => simp [intOf]
        · have dd : (n / 100 % 10 == 0) = false := by simpa using hd
          have C1 := CD.out (n / 100 % 10)
          have lD := chD_len (n / 100 % 10).toNat
          have l0 := chD_len 0
          have hs' : chSt n.toNat (1 + 1) = ((if z then S ++ chD 0 else S) ++ (chD (n / 100 % 10).toNat ++ [231, 153, 190]), false) := by
            rw [hs]; unfold chStep; rw [if_neg (show ¬ n.toNat / 100 % 10 = 0 by omega), show (n / 100 % 10).toNat = n.toNat / 100 % 10 by omega]
          have C0 := CD.out 0
          rw [show (0 : Int).toNat = 0 from rfl] at C0
          generalize chD (n / 100 % 10).toNat = D at C1 hs' lD
          generalize chD 0 = Z at C0 hs' l0
          have C0 := Lib.hid C0; have C1 := Lib.hid C1
          have a1 := addL D [231, 153, 190] _ rfl (by rw [List.length_append]; simp only [List.length_cons, List.length_nil]; omega)
          cases z with
          | true =>
            have a0 := addL S Z _ rfl (by rw [List.length_append]; omega)
            have a2 := addL (S ++ Z) (D ++ [231, 153, 190]) _ rfl (by rw [List.length_append, List.length_append, List.length_append]; simp only [List.length_cons, List.length_nil]; omega)
            rw [if_pos rfl] at hs'
            obtain ⟨T0, hT0⟩ : ∃ T, T = S ++ Z := ⟨_, rfl⟩
            rw [← hT0] at a0 a2 hs'
            obtain ⟨T1, hT1⟩ : ∃ T, T = D ++ [231, 153, 190] := ⟨_, rfl⟩
            rw [← hT1] at a1 a2 hs'
            obtain ⟨T2, hT2⟩ : ∃ T, T = T0 ++ T1 := ⟨_, rfl⟩
            rw [← hT2] at a2 hs'
            have HS := Lib.hid hs'
            clear hs hs' hd hT0 hT1 hT2 lD l0
            go_wp2_with fail
            refine (C0.out _ (by omega) (by omega)).mono ?_
            rintro e w1 ⟨rfl, rfl⟩
            go_wp2_with fail
            refine (C1.out _ (by omega) (by omega)).mono ?_
            rintro e w2 ⟨rfl, rfl⟩
            go_wp2_with fail
            go_roundw
            case rel => exact ⟨2, by omega, by go_num, by first | rfl | (congr 1; omega), by rw [HS.out], by rw [HS.out], trivial⟩
            case measure => simp [intOf]
          | false =>
            rw [if_neg (by simp)] at hs'
            have a2 := addL S (D ++ [231, 153, 190]) _ rfl (by rw [List.length_append, List.length_append]; simp only [List.length_cons, List.length_nil]; omega)
            obtain ⟨T1, hT1⟩ : ∃ T, T = D ++ [231, 153, 190] := ⟨_, rfl⟩
            rw [← hT1] at a1 a2 hs'
            obtain ⟨T2, hT2⟩ : ∃ T, T = S ++ T1 := ⟨_, rfl⟩
            rw [← hT2] at a2 hs'
            have HS := Lib.hid hs'
            clear hs hs' hd hT1 hT2 lD l0
            go_wp2_with fail
            refine (C1.out _ (by omega) (by omega)).mono ?_
            rintro e w2 ⟨rfl, rfl⟩
            go_wp2_with fail
            go_roundw
            case rel => exact ⟨2, by omega, by go_num, by first | rfl | (congr 1; omega), by rw [HS.out], by rw [HS.out], trivial⟩
            case measure => simp [intOf]
      · have hs := chSt_succ n.toNat 2 (10, [229, 141, 129]) rfl
        have ix := ch_idx2
        generalize chSt n.toNat 2 = st at hs hlen ⊢
        obtain ⟨S, z⟩ := st
        simp only [] at hs hlen ⊢
        by_cases hd : n / 10 % 10 = 0
        · have dd : (n / 10 % 10 == 0) = true := by simpa using hd
          have hs' : chSt n.toNat (2 + 1) = (S, !S.isEmpty) := by rw [hs]; unfold chStep; rw [if_pos (show n.toNat / 10 % 10 = 0 by omega)]
          have HS := Lib.hid hs'
          clear hs hs' hd
          obtain ⟨SB, hSB⟩ : ∃ SB : ByteArray, SB = ⟨S.toArray⟩ := ⟨_, rfl⟩
          have HL := Lib.hid (show SB.toList = S by rw [hSB]; exact pt_list S)
          rw [← hSB]
          have HSB := Lib.hid hSB; clear hSB
          go_wp2_with fail
          go_roundw
          case rel => exact ⟨3, by omega, by go_num, by first | rfl | (congr 1; omega), by rw [HS.out, HSB.out], by (rw [HS.out, ← HL.out]) <;> rfl, trivial⟩
          case measure => simp [intOf]
        · have dd : (n / 10 % 10 == 0) = false := by simpa using hd
          have C1 := CD.out (n / 10 % 10)
          have lD := chD_len (n / 10 % 10).toNat
          have l0 := chD_len 0
          have hs' : chSt n.toNat (2 + 1) = ((if z then S ++ chD 0 else S) ++ (chD (n / 10 % 10).toNat ++ [229, 141, 129]), false) := by
            rw [hs]; unfold chStep; rw [if_neg (show ¬ n.toNat / 10 % 10 = 0 by omega), show (n / 10 % 10).toNat = n.toNat / 10 % 10 by omega]
          have C0 := CD.out 0
          rw [show (0 : Int).toNat = 0 from rfl] at C0
          generalize chD (n / 10 % 10).toNat = D at C1 hs' lD
          generalize chD 0 = Z at C0 hs' l0
          have C0 := Lib.hid C0; have C1 := Lib.hid C1
          have a1 := addL D [229, 141, 129] _ rfl (by rw [List.length_append]; simp only [List.length_cons, List.length_nil]; omega)
          cases z with
          | true =>
            have a0 := addL S Z _ rfl (by rw [List.length_append]; omega)
            have a2 := addL (S ++ Z) (D ++ [229, 141, 129]) _ rfl (by rw [List.length_append, List.length_append, List.length_append]; simp only [List.length_cons, List.length_nil]; omega)
            rw [if_pos rfl] at hs'
            obtain ⟨T0, hT0⟩ : ∃ T, T = S ++ Z := ⟨_, rfl⟩
            rw [← hT0] at a0 a2 hs'
            obtain ⟨T1, hT1⟩ : ∃ T, T = D ++ [229, 141, 129] := ⟨_, rfl⟩
            rw [← hT1] at a1 a2 hs'
            obtain ⟨T2, hT2⟩ : ∃ T, T = T0 ++ T1 := ⟨_, rfl⟩
            rw [← hT2] at a2 hs'
            have HS := Lib.hid hs'
            clear hs hs' hd hT0 hT1 hT2 lD l0
            go_wp2_with fail
            refine (C0.out _ (by omega) (by omega)).mono ?_
            rintro e w1 ⟨rfl, rfl⟩
            go_wp2_with fail
            refine (C1.out _ (by omega) (by omega)).mono ?_
            rintro e w2 ⟨rfl, rfl⟩
            go_wp2_with fail
            go_roundw
            case rel => exact ⟨3, by omega, by go_num, by first | rfl | (congr 1; omega), by rw [HS.out], by rw [HS.out], trivial⟩
            case measure => simp [intOf]
          | false =>
            rw [if_neg (by simp)] at hs'
            have a2 := addL S (D ++ [229, 141, 129]) _ rfl (by rw [List.length_append, List.length_append]; simp only [List.length_cons, List.length_nil]; omega)
            obtain ⟨T1, hT1⟩ : ∃ T, T = D ++ [229, 141, 129] := ⟨_, rfl⟩
            rw [← hT1] at a1 a2 hs'
            obtain ⟨T2, hT2⟩ : ∃ T, T = S ++ T1 := ⟨_, rfl⟩
            rw [← hT2] at a2 hs'
            have HS := Lib.hid hs'
            clear hs hs' hd hT1 hT2 lD l0
            go_wp2_with fail
            refine (C1.out _ (by omega) (by omega)).mono ?_
            rintro e w2 ⟨rfl, rfl⟩
            go_wp2_with fail
            go_roundw
            case rel => exact ⟨3, by omega, by go_num, by first | rfl | (congr 1; omega), by rw [HS.out], by rw [HS.out], trivial⟩
            case measure => simp [intOf]
      · have hs := chSt_succ n.toNat 3 (1, []) rfl
        have ix := ch_idx3
        generalize chSt n.toNat 3 = st at hs hlen ⊢
        obtain ⟨S, z⟩ := st
        simp only [] at hs hlen ⊢
        by_cases hd : n % 10 = 0
        · have dd : (n % 10 == 0) = true := by simpa using hd
          have hs' : chSt n.toNat (3 + 1) = (S, !S.isEmpty) := by rw [hs]; unfold chStep; rw [if_pos (show n.toNat / 1 % 10 = 0 by omega)]
          have HS := Lib.hid hs'
          clear hs hs' hd
          obtain ⟨SB, hSB⟩ : ∃ SB : ByteArray, SB = ⟨S.toArray⟩ := ⟨_, rfl⟩
          have HL := Lib.hid (show SB.toList = S by rw [hSB]; exact pt_list S)
          rw [← hSB]
          have HSB := Lib.hid hSB; clear hSB
          go_wp2_with fail
          go_roundw
          case rel => exact ⟨4, by omega, by go_num, by first | rfl | (congr 1; omega), by rw [HS.out, HSB.out], by (rw [HS.out, ← HL.out]) <;> rfl, trivial⟩
          case measure => simp [intOf]
        · have dd : (n % 10 == 0) = false := by simpa using hd
          have C1 := CD.out (n % 10)
          have lD := chD_len (n % 10).toNat
          have l0 := chD_len 0
          have hs' : chSt n.toNat (3 + 1) = ((if z then S ++ chD 0 else S) ++ (chD (n % 10).toNat ++ []), false) := by
            rw [hs]; unfold chStep; rw [if_neg (show ¬ n.toNat / 1 % 10 = 0 by omega), show (n % 10).toNat = n.toNat / 1 % 10 by omega]
          have C0 := CD.out 0
          rw [show (0 : Int).toNat = 0 from rfl] at C0
          generalize chD (n % 10).toNat = D at C1 hs' lD
          generalize chD 0 = Z at C0 hs' l0
          have C0 := Lib.hid C0; have C1 := Lib.hid C1
          have a1 := addL D [] _ rfl (by rw [List.length_append]; simp only [List.length_cons, List.length_nil]; omega)
          cases z with
          | true =>
            have a0 := addL S Z _ rfl (by rw [List.length_append]; omega)
            have a2 := addL (S ++ Z) (D ++ []) _ rfl (by rw [List.length_append, List.length_append, List.length_append]; simp only [List.length_cons, List.length_nil]; omega)
            rw [if_pos rfl] at hs'
            obtain ⟨T0, hT0⟩ : ∃ T, T = S ++ Z := ⟨_, rfl⟩
            rw [← hT0] at a0 a2 hs'
            obtain ⟨T1, hT1⟩ : ∃ T, T = D ++ [] := ⟨_, rfl⟩
            rw [← hT1] at a1 a2 hs'
            obtain ⟨T2, hT2⟩ : ∃ T, T = T0 ++ T1 := ⟨_, rfl⟩
            rw [← hT2] at a2 hs'
            have HS := Lib.hid hs'
            clear hs hs' hd hT0 hT1 hT2 lD l0
            go_wp2_with fail
            refine (C0.out _ (by omega) (by omega)).mono ?_
            rintro e w1 ⟨rfl, rfl⟩
            go_wp2_with fail
            refine (C1.out _ (by omega) (by omega)).mono ?_
            rintro e w2 ⟨rfl, rfl⟩
            go_wp2_with fail
            go_roundw
            case rel => exact ⟨4, by omega, by go_num, by first | rfl | (congr 1; omega), by rw [HS.out], by rw [HS.out], trivial⟩
            case measure => simp [intOf]
          | false =>
            rw [if_neg (by simp)] at hs'
            have a2 := addL S (D ++ []) _ rfl (by rw [List.length_append, List.length_append]; simp only [List.length_cons, List.length_nil]; omega)
            obtain ⟨T1, hT1⟩ : ∃ T, T = D ++ [] := ⟨_, rfl⟩
            rw [← hT1] at a1 a2 hs'
            obtain ⟨T2, hT2⟩ : ∃ T, T = S ++ T1 := ⟨_, rfl⟩
            rw [← hT2] at a2 hs'
            have HS := Lib.hid hs'
            clear hs hs' hd hT1 hT2 lD l0
            go_wp2_with fail
            refine (C1.out _ (by omega) (by omega)).mono ?_
            rintro e w2 ⟨rfl, rfl⟩
            go_wp2_with fail
            go_roundw
            case rel => exact ⟨4, by omega, by go_num, by first | rfl | (congr 1; omega), by rw [HS.out], by rw [HS.out], trivial⟩
            case measure => simp [intOf]
      · go_wp2_with fail
        go_ret
        exact ⟨by rw [HR.out]; rfl, rfl⟩
end Go.Proofs.YticflmepmmdnfabDoor
