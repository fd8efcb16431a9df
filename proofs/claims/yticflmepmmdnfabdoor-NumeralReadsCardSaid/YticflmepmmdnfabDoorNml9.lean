/- Contracts of the reference's zero, NumeralRange, and of NumeralText in a positional script. -/
import Derived.Test.YticflmepmmdnfabDoorNml7
import Derived.Deep.LoopGhost
import Derived.Lib.OthersKept
namespace Go.Proofs.YticflmepmmdnfabDoor
set_option linter.unusedVariables false
set_option linter.unusedSimpArgs false
set_option maxRecDepth 100000
open Go.RowKit Go.Shelf Nml

theorem ref_zero (k : Nat) (w : World) (hk : k < 9) :
    Calls Tryd.prog 24 #[.int .i64 (k : Int)] w fun e w' => e = .returned (.int .i32 (zeroOf k)) ∧ Below w.heap.size w w' := by
  have hb : ∀ o1 : Obj, Below w.heap.size w (w.alloc o1) := fun o1 => below_new (Below.refl _ _) _
  have HB := Lib.hid hb; clear hb
  have h2 : k = 0 ∨ k = 1 ∨ k = 2 ∨ k = 3 ∨ k = 4 ∨ k = 5 ∨ k = 6 ∨ k = 7 ∨ k = 8 := by omega
  clear hk
  rcases h2 with rfl | rfl | rfl | rfl | rfl | rfl | rfl | rfl | rfl
  all_goals
    go_enter Tryd.func24, Tryd.ntmps24
    go_wp2_with fail
    go_ret
    exact ⟨rfl, HB.out _⟩
theorem ref_NumeralRange (s : Int) (w : World) (h0 : 0 ≤ s) (h1 : s ≤ 12) : Calls Tryd.prog 12 #[.int .i64 s] w fun e w' => e = .returned (.tuple #[.int .i64 (lowS s), .int .i64 (highS s)]) ∧ w = w' := by
  unfold lowS highS
  by_cases h9 : s < 9
  · rw [if_neg (show ¬ s = 9 by omega), if_neg (show ¬ s = 9 by omega), if_neg (show ¬ (s = 10 ∨ s = 11) by omega), if_neg (show ¬ (s = 10 ∨ s = 11) by omega), if_neg (show ¬ s = 12 by omega), if_neg (show ¬ s = 12 by omega)]
    go_enter Tryd.func12, Tryd.ntmps12
    go_wp2_with fail
    go_ret2
    exact ⟨rfl, rfl⟩
  by_cases e9 : s = 9
  · rw [if_pos e9, if_pos e9]
    have d : (s == 9) = true := by simpa using e9
    clear e9
    go_enter Tryd.func12, Tryd.ntmps12
    go_wp2_with fail
    go_ret2
    exact ⟨rfl, rfl⟩
  have d9 : (s == 9) = false := by simpa using e9
  by_cases e12 : s = 12
  · rw [if_neg e9, if_neg e9, if_neg (show ¬ (s = 10 ∨ s = 11) by omega), if_neg (show ¬ (s = 10 ∨ s = 11) by omega), if_pos e12, if_pos e12]
    have d : (s == 12) = true := by simpa using e12
    clear e12
    go_enter Tryd.func12, Tryd.ntmps12
    go_wp2_with fail
    go_ret2
    exact ⟨rfl, rfl⟩
  have d12 : (s == 12) = false := by simpa using e12
  rw [if_neg e9, if_neg e9, if_pos (show s = 10 ∨ s = 11 by omega), if_pos (show s = 10 ∨ s = 11 by omega)]
  go_enter Tryd.func12, Tryd.ntmps12
  go_wp2_with fail
  go_ret2
  exact ⟨rfl, rfl⟩
theorem enc_pos (k d : Nat) (hk : k < 9) (hd : d < 10) : Utf8.encode ((zeroOf k : Int) + d) = ⟨(Lib.encodeRune ((zeroOf k : Int) + d)).toArray⟩ := by
  have := allU_of 10 _ (allU_of 9 (fun k => allU 10 fun d => decide (Utf8.encode ((zeroOf k : Int) + d) = ⟨(Lib.encodeRune ((zeroOf k : Int) + d)).toArray⟩)) (by decide +kernel) k hk) d hd
  simpa using this
theorem encR_len (z : Int) : (Lib.encodeRune z).length ≤ 4 := by
  unfold Lib.encodeRune Lib.encodeRuneZ
  rw [List.length_map]
  split
  · simp
  · split
    · simp
    · split
      · simp
      · split <;> simp
theorem enc1_len (z : Nat) (c : UInt8) : (enc1 z c).length ≤ 4 := by
  unfold enc1
  split
  · simp
  · exact encR_len _
theorem posL_len (z : Nat) : ∀ l : List UInt8, (posL z l).length ≤ 4 * l.length
  | [] => by simp [posL]
  | c :: r => by
    have h1 := enc1_len z c
    have h2 := posL_len z r
    unfold posL at h2 ⊢
    rw [List.flatMap_cons, List.length_append, List.length_cons]
    omega
theorem posL_take (z : Nat) (l : List UInt8) (k : Nat) (c : UInt8) (h : l[k]? = some c) : posL z (l.take (k + 1)) = posL z (l.take k) ++ enc1 z c := by
  rw [List.take_add_one, h, posL_app]; simp [posL]
theorem itoa_mem (n : Int) : ∀ c ∈ Lib.itoa n, c = 45 ∨ Num.isDig c = true := by
  intro c hc
  unfold Lib.itoa at hc
  split at hc
  · rcases List.mem_cons.1 hc with rfl | hc
    · exact .inl rfl
    · exact .inr (Num.dd_dig _ c hc)
  · exact .inr (Num.dd_dig _ c hc)
set_option maxHeartbeats 4000000 in
theorem ref_NumeralTextP (k : Nat) (n : Int) (w : World) (hk : k < 9) (h0 : -2147483647 ≤ n) (h1 : n ≤ 2147483647) (hp : Pow w) :
    Calls Tryd.prog 13 #[.int .i64 (k : Int), .int .i64 n] w fun e w' => e = .returned (.string ⟨(posL (zeroOf k) (Lib.itoa n)).toArray⟩) ∧ Below w.heap.size w w' := by
  have CI := Lib.hid (lib_Itoa n w (by omega) (by omega) hp)
  have CZ := Lib.hid (fun W => ref_zero k W hk)
  have hlen := itoa_len n h0 h1
  have hmem := itoa_mem n
  have hst : (itoaS n).data.toList = Lib.itoa n := rfl
  have hsz : (itoaS n).size = (Lib.itoa n).length := by show (Lib.itoa n).toArray.size = _; simp
  have hE := fun d hd => enc_pos k d hk hd
  obtain ⟨z1, z2⟩ := zero_bounds k
  generalize itoaS n = S at *
  generalize Lib.itoa n = L at *
  generalize zeroOf k = Z at *
  have HM := Lib.hid hmem; have HST := Lib.hid hst; have HE := Lib.hid hE
  have k9 : (k : Int) < 9 := by omega
  clear hmem hst hE hp hk
  go_enter Tryd.func13, Tryd.ntmps13
  go_wp2_with fail
  refine CI.out.mono ?_
  rintro e w1 ⟨rfl, b⟩
  have B1 := Lib.hid b; clear b CI
  go_wp2_with fail
  go_loopg [5] S.size (fun gf v wx => ∃ pos : Nat, v = .string ⟨(posL Z (L.take pos)).toArray⟩ ∧ wx.heap[w1.heap.size]? = some (.stringIter S pos) ∧ Below w.heap.size w wx ∧ S.size ≤ pos + gf ∧ pos ≤ S.size)
  case atStart => exact ⟨0, by simp [posL], World.iter_heap w1 S 0, B1.out.alloc B1.out.size _, by omega, by omega⟩
  case round =>
    obtain ⟨pos, rfl, hit, hbw, hfu, hps⟩ := hrel
    by_cases hp2 : pos < S.size
    · obtain ⟨g', rfl⟩ : ∃ g', gk = g' + 1 := ⟨gk - 1, by omega⟩
      have hget := str_get S pos hp2
      rw [HST.out] at hget
      obtain ⟨C, hC⟩ : ∃ C, C = S[pos] := ⟨_, rfl⟩
      have hcm := HM.out C (by rw [hC]; exact List.mem_of_getElem? hget)
      have hC128 : C.toNat < 128 := by
        rcases hcm with h | h
        · rw [h]; decide
        · unfold Num.isDig at h; simp at h; omega
      have hnx : ∀ ty, (Instr.next (.pointer (some ⟨w1.heap.size, 0, none⟩)) true ty).run Tryd.prog wr = _ := fun ty => Lib.run_next_ascii_at wr w1.heap.size S pos ty hit hp2 (by rw [← hC]; exact hC128)
      rw [← hC] at hnx hget
      have hstep := posL_take Z L pos C hget
      have hlp := posL_len Z (L.take pos)
      rw [List.length_take] at hlp
      have hl1 := enc1_len Z C
      have hit2 := Lib.iterAt_heap wr w1.heap.size S pos (pos + 1) hit
      have hbw2 := Lib.below_iterAt hbw (k := w1.heap.size) B1.out.size S (pos + 1)
      have hlt : w1.heap.size < (wr.iterAt w1.heap.size S (pos + 1)).heap.size := by
        rcases Nat.lt_or_ge w1.heap.size (wr.iterAt w1.heap.size S (pos + 1)).heap.size with h' | h'
        · exact h'
        · rw [Array.getElem?_eq_none h'] at hit2; cases hit2
      obtain ⟨W, hWd⟩ : ∃ W, wr.iterAt w1.heap.size S (pos + 1) = W := ⟨_, rfl⟩
      rw [hWd] at hnx hit2 hbw2 hlt
      clear hWd hit hbw hC hget
      have HIT := Lib.hid hit2; have HBW := Lib.hid hbw2
      clear hit2 hbw2
      have ha := addL (posL Z (L.take pos)) (enc1 Z C) _ hstep.symm (by rw [hstep, List.length_append]; omega)
      obtain ⟨T, hT⟩ : ∃ T, T = posL Z (L.take (pos + 1)) := ⟨_, rfl⟩
      rw [← hT] at ha hstep
      have HT := Lib.hid hT
      clear hT
      generalize posL Z (L.take pos) = P0 at ha hstep hlp ⊢
      by_cases h45 : C = 45
      · subst h45
        have he : enc1 Z 45 = [45] := rfl
        rw [he] at ha
        have ha2 : ∀ W, (Op.stringOp .add ⟨P0.toArray⟩ (Utf8.encode 45)).run Tryd.prog W = .ok (.string ⟨T.toArray⟩) W := by
          rw [show Utf8.encode 45 = ⟨#[45]⟩ by decide +kernel]; exact ha
        clear hcm hC128 he hl1 hstep hlp ha
        go_wp2_with fail
        go_roundg g'
        case measure => omega
        case rel => exact ⟨pos + 1, by rw [← HT.out], HIT.out, HBW.out, by omega, by omega⟩
      · have hdig : Num.isDig C = true := hcm.resolve_left h45
        have hd2 : 48 ≤ C.toNat ∧ C.toNat ≤ 57 := by unfold Num.isDig at hdig; simpa using hdig
        have he : enc1 Z C = Lib.encodeRune ((Z : Int) + C.toNat - 48) := by unfold enc1; rw [if_neg h45]
        have hen := HE.out (C.toNat - 48) (by omega)
        rw [show ((Z : Int) + ((C.toNat - 48 : Nat) : Int)) = (C.toNat : Int) + ((Z : Int) - 48) by omega] at hen
        rw [he, show (Z : Int) + C.toNat - 48 = (C.toNat : Int) + ((Z : Int) - 48) by omega, ] at ha
        rw [← hen] at ha
        have d45 : ((C.toNat : Int) == 45) = false := by simp; omega
        have d45' : ((C.toNat : Int) != 45) = true := by simp; omega
        have i1 : IntKind.i32.wrap ((Z : Int) - 48) = (Z : Int) - 48 := IntWalk.i32_in _ (by omega)
        have i2 : IntKind.i32.wrap ((C.toNat : Int) + ((Z : Int) - 48)) = (C.toNat : Int) + ((Z : Int) - 48) := IntWalk.i32_in _ (by omega)
        clear hcm hC128 he hl1 hstep hlp hen hdig h45
        generalize C.toNat = c at *
        go_wp2_with fail
        refine (CZ.out _).mono ?_
        rintro e w3 ⟨rfl, b⟩
        have HIT3 := Lib.hid ((b.block _ hlt).trans HIT.out)
        have HB3 := Lib.hid (below_then HBW.out b)
        clear b
        go_wp2_with fail
        go_roundg g'
        case measure => omega
        case rel => exact ⟨pos + 1, by rw [← HT.out], HIT3.out, HB3.out, by omega, by omega⟩
    · have hnx : ∀ ty, (Instr.next (.pointer (some ⟨w1.heap.size, 0, none⟩)) true ty).run Tryd.prog wr = _ := fun ty => Lib.run_next_end_at wr w1.heap.size S pos ty hit hp2
      have HF := Lib.hid (show L.take pos = L from List.take_of_length_le (by omega))
      have HBW := Lib.hid hbw
      clear hit hbw
      go_wp2_with fail
      go_ret
      exact ⟨by rw [HF.out]; rfl, HBW.out⟩
end Go.Proofs.YticflmepmmdnfabDoor
