/- Contracts of numeral.Lenient and numeral.Read. -/
import Derived.Test.YticflmepmmdnfabDoorNml23
import Derived.Test.YticflmepmmdnfabDoorNml7
import Derived.Deep.LoopGhost
import Derived.Lib.OthersKept
namespace Go.Proofs.YticflmepmmdnfabDoor
set_option linter.unusedVariables false
set_option linter.unusedSimpArgs false
set_option maxRecDepth 100000
open Go.RowKit Go.Shelf Nml

theorem sgRow_bounds (g : Bool) (p u : Nat) (e : List UInt8) : ∀ (k n : Nat) (v : Int), sgRow g p u e k n = some v → 0 ≤ v ∧ v ≤ ((n + k) * u : Nat)
  | 0, n, v, h => by cases h
  | k + 1, n, v, h => by
    unfold sgRow at h
    split at h
    · injection h with h
      have : n * u ≤ (n + (k + 1)) * u := Nat.mul_le_mul_right u (by omega)
      omega
    · have := sgRow_bounds g p u e k (n + 1) v h
      rw [show n + 1 + k = n + (k + 1) by omega] at this
      exact this
theorem sgOr_bounds {o : Option Int} {r : Int × Bool} (h1 : ∀ v, o = some v → 0 ≤ v ∧ v ≤ 1000) (h2 : 0 ≤ r.1 ∧ r.1 ≤ 1000) : 0 ≤ (sgOr o r).1 ∧ (sgOr o r).1 ≤ 1000 := by
  cases o with
  | none => exact h2
  | some v => exact h1 v rfl
theorem sgV_bounds (g : Bool) (c : Nat) : 0 ≤ (sgV g c).1 ∧ (sgV g c).1 ≤ 1000 := by
  unfold sgV
  show 0 ≤ (sgOr (sgRow g 0 1 (encB c) 9 1) (sgOr (sgRow g 1 10 (encB c) 9 1) (sgOr (sgRow g 2 100 (encB c) 9 1) (0, false)))).1 ∧ (sgOr (sgRow g 0 1 (encB c) 9 1) (sgOr (sgRow g 1 10 (encB c) 9 1) (sgOr (sgRow g 2 100 (encB c) 9 1) (0, false)))).1 ≤ 1000
  refine sgOr_bounds (fun v h => ?_) (sgOr_bounds (fun v h => ?_) (sgOr_bounds (fun v h => ?_) ⟨by show (0 : Int) ≤ 0; omega, by show (0 : Int) ≤ 1000; omega⟩))
  · have := sgRow_bounds g 0 1 (encB c) 9 1 v h; omega
  · have := sgRow_bounds g 1 10 (encB c) 9 1 v h; omega
  · have := sgRow_bounds g 2 100 (encB c) 9 1 v h; omega
theorem chRow_bounds (e : List UInt8) : ∀ (k n : Nat) (v : Int), chRow e k n = some v → 0 ≤ v ∧ v ≤ ((n + k : Nat) : Int)
  | 0, n, v, h => by cases h
  | k + 1, n, v, h => by
    unfold chRow at h
    split at h
    · injection h with h; omega
    · have := chRow_bounds e k (n + 1) v h; omega
theorem chV_bounds (c : Nat) : 0 ≤ (chV c).1 ∧ (chV c).1 ≤ 1000 := by
  unfold chV
  refine sgOr_bounds (fun v h => ?_) ?_
  · have := chRow_bounds (encB c) 10 0 v h; omega
  · unfold chBig
    split
    · show (0 : Int) ≤ 10 ∧ (10 : Int) ≤ 1000; omega
    · split
      · show (0 : Int) ≤ 100 ∧ (100 : Int) ≤ 1000; omega
      · split
        · show (0 : Int) ≤ 1000 ∧ (1000 : Int) ≤ 1000; omega
        · show (0 : Int) ≤ 0 ∧ (0 : Int) ≤ 1000; omega
theorem romV_bounds (c : Nat) : 0 ≤ (romV c).1 ∧ (romV c).1 ≤ 1000 := by
  unfold romV
  repeat' split
  all_goals (simp only []; omega)
theorem valP_bounds (s : Int) (c : Nat) (h : (valP s c).2 = true) (hs : 9 ≤ s ∧ s ≤ 12 ∨ c ≠ 45) : 0 ≤ (valP s c).1 ∧ (valP s c).1 ≤ 1000 := by
  unfold valP at h ⊢
  by_cases h9 : s = 9
  · rw [if_pos h9]; exact romV_bounds c
  rw [if_neg h9] at h ⊢
  by_cases h10 : s = 10
  · rw [if_pos h10]; exact sgV_bounds true c
  rw [if_neg h10] at h ⊢
  by_cases h11 : s = 11
  · rw [if_pos h11]; exact sgV_bounds false c
  rw [if_neg h11] at h ⊢
  by_cases h12 : s = 12
  · rw [if_pos h12]; exact chV_bounds c
  rw [if_neg h12] at h ⊢
  have h45 : c ≠ 45 := hs.resolve_left (by omega)
  unfold posV at h ⊢
  simp only [Bool.or_eq_true, Bool.and_eq_true, decide_eq_true_eq] at h ⊢
  omega
def LenPost (v : Int × Bool) (w : World) (e : Ending) (w' : World) : Prop := e = .returned (.tuple #[.int .i64 v.1, .bool v.2]) ∧ Below w.heap.size w w'
def lenOf (o : Option LSt) (b : Bool) : Int × Bool := match o with | none => (0, false) | some st => (lenEnd st, b)
theorem lenP_of (s : Int) (l : List UInt8) : lenP s l = lenOf (lenGo s l.length 0 l ⟨0, 0, 0, false⟩) (!l.isEmpty) := by
  unfold lenP lenOf
  cases lenGo s l.length 0 l ⟨0, 0, 0, false⟩ <;> rfl
set_option maxHeartbeats 16000000 in
theorem num_Lenient (s : Int) (S : ByteArray) (w : World) (hs : inB 0 12 s = true) (hS : S.size ≤ 60) (hz : Zer w) :
    Calls Tryd.prog 29 #[.int .i64 s, .string S] w (LenPost (lenP s S.data.toList) w) := by
  have CV := Lib.hid (fun (c : Nat) (W : World) (hc : c ≤ 1114111) (hb : Below w.heap.size w W) => num_Value s c W hs hc (hz.below hb))
  unfold LenPost ValPost at *
  rw [lenP_of]
  have hlen : S.data.toList.length = S.size := str_len S
  obtain ⟨NB, hNB⟩ : ∃ b, b = !S.data.toList.isEmpty := ⟨_, rfl⟩
  rw [← hNB]
  have HNB := Lib.hid (show NB = !S.toList.isEmpty by rw [str_list]; exact hNB); clear hNB
  obtain ⟨ANS, hA⟩ : ∃ A, A = lenGo s S.data.toList.length 0 S.data.toList ⟨0, 0, 0, false⟩ := ⟨_, rfl⟩
  rw [← hA]
  rw [hlen] at hA
  have HA := Lib.hid hA.symm
  obtain ⟨s0, s1⟩ := inB_iff.1 hs
  clear hA hz hlen hs
  go_enter Tryd.func29, Tryd.ntmps29
  go_wp2_with fail
  go_loopg [6, 7, 8, 9] S.size (fun gf t l d b wx => ∃ (pos : Nat) (st : LSt), t = .int .i64 st.total ∧ l = .int .i64 st.last ∧ d = .int .i64 st.digit ∧ b = .bool st.neg ∧ wx.heap[w.heap.size]? = some (.stringIter S pos) ∧ Below w.heap.size w wx ∧ lenGo s gf pos (S.data.toList.drop pos) st = ANS ∧ S.size ≤ pos + gf ∧ pos ≤ S.size + 4 ∧ (-2000 * (pos : Int) ≤ st.total ∧ st.total ≤ 35184372088832 ∧ 0 ≤ st.last ∧ st.last ≤ 1000 ∧ 0 ≤ st.digit ∧ st.digit ≤ 9 ∧ (s < 9 → 0 ≤ st.total)))
  case atStart => exact ⟨0, ⟨0, 0, 0, false⟩, rfl, rfl, rfl, rfl, World.iter_heap w S 0, (Below.refl _ _).alloc (Nat.le_refl _) _, HA.out, by omega, by omega, by simp⟩
  case round =>
    clear HA
    obtain ⟨pos, st, rfl, rfl, rfl, rfl, hit, hbw, hleft, hfu, hps, b1, b2, b3, b4, b5, b6, b7⟩ := hrel
    by_cases hp2 : pos < S.size
    · obtain ⟨g', rfl⟩ : ∃ g', gk = g' + 1 := ⟨gk - 1, by omega⟩
      have hnx : ∀ ty, (Instr.next (.pointer (some ⟨w.heap.size, 0, none⟩)) true ty).run Tryd.prog wr = _ := fun ty => Lib.run_next_any_at wr w.heap.size S pos ty hit hp2
      have hwd := Lib.width_pos S pos
      have hcm := Lib.rune_le S pos
      have hne : S.data.toList.drop pos ≠ [] := by
        intro e; have := congrArg List.length e; rw [List.length_drop, str_len, List.length_nil] at this; omega
      rw [lenGo_step _ _ _ _ _ hne, Lib.decodeL_drop] at hleft
      have hw4 : (Utf8.decode S pos).2 ≤ S.size - pos := by
        have := Lib.decodeL_le (S.data.toList.drop pos) hne
        rw [Lib.decodeL_drop, List.length_drop, str_len] at this; exact this
      obtain ⟨C, hC⟩ : ∃ C, (Utf8.decode S pos).1 = C := ⟨_, rfl⟩
      obtain ⟨K, hK⟩ : ∃ K, (Utf8.decode S pos).2 = K := ⟨_, rfl⟩
      rw [hC, hK] at hleft hnx
      rw [hC] at hcm
      rw [hK] at hwd hw4
      rw [List.drop_drop] at hleft
      have hit2 := Lib.iterAt_heap wr w.heap.size S pos (pos + K) hit
      have hbw2 := Lib.below_iterAt hbw (k := w.heap.size) (Nat.le_refl _) S (pos + K)
      have hlt : w.heap.size < (wr.iterAt w.heap.size S (pos + K)).heap.size := by
        rcases Nat.lt_or_ge w.heap.size (wr.iterAt w.heap.size S (pos + K)).heap.size with h' | h'
        · exact h'
        · rw [Array.getElem?_eq_none h'] at hit2; cases hit2
      obtain ⟨W, hWd⟩ : ∃ W, wr.iterAt w.heap.size S (pos + K) = W := ⟨_, rfl⟩
      rw [hWd] at hnx hit2 hbw2 hlt
      clear hC hK hWd hit hbw hne
      have HIT := Lib.hid hit2; have HBW := Lib.hid hbw2; have HLT := Lib.hid hlt
      clear hit2 hbw2 hlt
      have CVc := CV.out C W hcm HBW.out
      have hvb := valP_bounds s C
      unfold lenStep at hleft
      generalize valP s C = V at CVc hvb hleft
      obtain ⟨v, is⟩ := V
      simp only [] at CVc hvb
      obtain ⟨tot, las, dgt, ng⟩ := st
      simp only [] at b1 b2 b3 b4 b5 b6 b7 ⊢
      have CVh := Lib.hid CVc
      clear CVc
      cases is with
      | false =>
        have HF := Lib.hid (show ANS = none by rw [← hleft]; unfold lenStepV; rw [if_pos (.inl rfl)])
        clear hleft hvb
        go_wp2_with fail
        refine CVh.out.mono ?_
        rintro e w2 ⟨rfl, b⟩
        have HIT3 := Lib.hid ((b.block _ HLT.out).trans HIT.out)
        have HB3 := Lib.hid (below_then HBW.out b)
        clear b
        go_wp2_with fail
        go_ret2
        exact ⟨by rw [HF.out]; rfl, HB3.out⟩
      | true =>
        by_cases hbig : 1099511627776 < tot
        · have HF := Lib.hid (show ANS = none by rw [← hleft]; unfold lenStepV; rw [if_pos (.inr hbig)])
          clear hleft hvb
          go_wp2_with fail
          refine CVh.out.mono ?_
          rintro e w2 ⟨rfl, b⟩
          have HIT3 := Lib.hid ((b.block _ HLT.out).trans HIT.out)
          have HB3 := Lib.hid (below_then HBW.out b)
          clear b
          go_wp2_with fail
          go_ret2
          exact ⟨by rw [HF.out]; rfl, HB3.out⟩
        have hno : ¬ ((true = false) ∨ 1099511627776 < tot) := by simp; omega
        unfold lenStepV at hleft
        rw [if_neg hno] at hleft
        by_cases h9 : s = 9
        · have hv := hvb rfl (.inl (by omega))
          rw [if_pos h9] at hleft
          have d9 : (s == 9) = true := by simpa using h9
          simp only [] at hleft
          clear hvb hno s0 s1
          by_cases hlv : las < v
          · rw [if_pos hlv] at hleft
            have HL := Lib.hid hleft
            have BB := Lib.hid (show -2000 * ((pos + K : Nat) : Int) ≤ tot - 2 * las + v ∧ tot - 2 * las + v ≤ 35184372088832 ∧ 0 ≤ v ∧ v ≤ 1000 ∧ 0 ≤ dgt ∧ dgt ≤ 9 ∧ (s < 9 → 0 ≤ tot - 2 * las + v) by omega)
            clear hleft h9
            go_wp2_with fail
            refine CVh.out.mono ?_
            rintro e w2 ⟨rfl, b⟩
            have HIT3 := Lib.hid ((b.block _ HLT.out).trans HIT.out)
            have HB3 := Lib.hid (below_then HBW.out b)
            clear b
            go_wp2_with fail
            go_roundg g'
            case measure => omega
            case rel => exact ⟨pos + K, _, rfl, rfl, rfl, rfl, HIT3.out, HB3.out, HL.out, by omega, by omega, BB.out⟩
          · rw [if_neg hlv] at hleft
            have HL := Lib.hid hleft
            have BB := Lib.hid (show -2000 * ((pos + K : Nat) : Int) ≤ tot + v ∧ tot + v ≤ 35184372088832 ∧ 0 ≤ v ∧ v ≤ 1000 ∧ 0 ≤ dgt ∧ dgt ≤ 9 ∧ (s < 9 → 0 ≤ tot + v) by omega)
            clear hleft h9
            go_wp2_with fail
            refine CVh.out.mono ?_
            rintro e w2 ⟨rfl, b⟩
            have HIT3 := Lib.hid ((b.block _ HLT.out).trans HIT.out)
            have HB3 := Lib.hid (below_then HBW.out b)
            clear b
            go_wp2_with fail
            go_roundg g'
            case measure => omega
            case rel => exact ⟨pos + K, _, rfl, rfl, rfl, rfl, HIT3.out, HB3.out, HL.out, by omega, by omega, BB.out⟩
        rw [if_neg h9] at hleft
        have d9 : (s == 9) = false := by simpa using h9
        by_cases h10 : s = 10 ∨ s = 11
        · have hv := hvb rfl (.inl (by omega))
          rw [if_pos h10] at hleft
          simp only [] at hleft
          have HL := Lib.hid hleft
          have BB := Lib.hid (show -2000 * ((pos + K : Nat) : Int) ≤ tot + v ∧ tot + v ≤ 35184372088832 ∧ 0 ≤ las ∧ las ≤ 1000 ∧ 0 ≤ dgt ∧ dgt ≤ 9 ∧ (s < 9 → 0 ≤ tot + v) by omega)
          clear hleft hvb hno h9
          rcases h10 with h10 | h11
          · have d10 : (s == 10) = true := by simpa using h10
            clear h10 s0 s1
            go_wp2_with fail
            refine CVh.out.mono ?_
            rintro e w2 ⟨rfl, b⟩
            have HIT3 := Lib.hid ((b.block _ HLT.out).trans HIT.out)
            have HB3 := Lib.hid (below_then HBW.out b)
            clear b
            go_wp2_with fail
            go_roundg g'
            case measure => omega
            case rel => exact ⟨pos + K, _, rfl, rfl, rfl, rfl, HIT3.out, HB3.out, HL.out, by omega, by omega, BB.out⟩
          · have d10 : (s == 10) = false := by simp; omega
            have d11 : (s == 11) = true := by simpa using h11
            clear h11 s0 s1
            go_wp2_with fail
            refine CVh.out.mono ?_
            rintro e w2 ⟨rfl, b⟩
            have HIT3 := Lib.hid ((b.block _ HLT.out).trans HIT.out)
            have HB3 := Lib.hid (below_then HBW.out b)
            clear b
            go_wp2_with fail
            go_roundg g'
            case measure => omega
            case rel => exact ⟨pos + K, _, rfl, rfl, rfl, rfl, HIT3.out, HB3.out, HL.out, by omega, by omega, BB.out⟩
        rw [if_neg h10] at hleft
        have d10 : (s == 10) = false := by simp; omega
        have d11 : (s == 11) = false := by simp; omega
        by_cases h12 : s = 12
        · have hv := hvb rfl (.inl (by omega))
          rw [if_pos h12] at hleft
          have d12 : (s == 12) = true := by simpa using h12
          clear hvb hno h9 h10 s0 s1
          by_cases hlv : v < 10
          · rw [if_pos hlv] at hleft
            simp only [] at hleft
            have HL := Lib.hid hleft
            have BB := Lib.hid (show -2000 * ((pos + K : Nat) : Int) ≤ tot + dgt ∧ tot + dgt ≤ 35184372088832 ∧ 0 ≤ las ∧ las ≤ 1000 ∧ 0 ≤ v ∧ v ≤ 9 ∧ (s < 9 → 0 ≤ tot + dgt) by omega)
            clear hleft h12
            go_wp2_with fail
            refine CVh.out.mono ?_
            rintro e w2 ⟨rfl, b⟩
            have HIT3 := Lib.hid ((b.block _ HLT.out).trans HIT.out)
            have HB3 := Lib.hid (below_then HBW.out b)
            clear b
            go_wp2_with fail
            go_roundg g'
            case measure => omega
            case rel => exact ⟨pos + K, _, rfl, rfl, rfl, rfl, HIT3.out, HB3.out, HL.out, by omega, by omega, BB.out⟩
          · rw [if_neg hlv] at hleft
            simp only [] at hleft
            have m0 : 0 ≤ dgt * v := Int.mul_nonneg b5 hv.1
            have m1 : dgt * v ≤ 9 * 1000 := Int.mul_le_mul b6 hv.2 hv.1 (by omega)
            have HL := Lib.hid hleft
            have BB := Lib.hid (show -2000 * ((pos + K : Nat) : Int) ≤ tot + dgt * v ∧ tot + dgt * v ≤ 35184372088832 ∧ 0 ≤ las ∧ las ≤ 1000 ∧ (0 : Int) ≤ 0 ∧ (0 : Int) ≤ 9 ∧ (s < 9 → 0 ≤ tot + dgt * v) by omega)
            have wm : wrap64 (dgt * v) = dgt * v := IntWalk.wrap64_in _ (by omega)
            have wn : wrap64 (tot + dgt * v) = tot + dgt * v := IntWalk.wrap64_in _ (by omega)
            clear hleft h12
            go_wp2_with fail
            refine CVh.out.mono ?_
            rintro e w2 ⟨rfl, b⟩
            have HIT3 := Lib.hid ((b.block _ HLT.out).trans HIT.out)
            have HB3 := Lib.hid (below_then HBW.out b)
            clear b
            go_wp2_with fail
            go_roundg g'
            case measure => omega
            case rel => exact ⟨pos + K, _, rfl, rfl, rfl, rfl, HIT3.out, HB3.out, HL.out, by omega, by omega, BB.out⟩
        rw [if_neg h12] at hleft
        have d12 : (s == 12) = false := by simp; omega
        have hs9 : s < 9 := by omega
        clear h9 h10 h12 hno
        by_cases h45 : C = 45
        · rw [if_pos h45] at hleft
          have e45 : ((C : Int) == 45) = true := by simp; omega
          by_cases hp0 : 0 < pos
          · rw [if_pos hp0] at hleft
            have HF := Lib.hid (show ANS = none from hleft.symm)
            have hp1 : (0 : Int) < (pos : Int) := by omega
            clear hleft hvb hp0 h45
            go_wp2_with fail
            refine CVh.out.mono ?_
            rintro e w2 ⟨rfl, b⟩
            have HIT3 := Lib.hid ((b.block _ HLT.out).trans HIT.out)
            have HB3 := Lib.hid (below_then HBW.out b)
            clear b
            go_wp2_with fail
            go_ret2
            exact ⟨by rw [HF.out]; rfl, HB3.out⟩
          · rw [if_neg hp0] at hleft
            obtain rfl : pos = 0 := by omega
            simp only [] at hleft
            have HL := Lib.hid hleft
            have BB := Lib.hid (show -2000 * ((0 + K : Nat) : Int) ≤ tot ∧ tot ≤ 35184372088832 ∧ 0 ≤ las ∧ las ≤ 1000 ∧ 0 ≤ dgt ∧ dgt ≤ 9 ∧ (s < 9 → 0 ≤ tot) by omega)
            clear hleft hvb hp0 h45 hs9
            go_wp2_with fail
            refine CVh.out.mono ?_
            rintro e w2 ⟨rfl, b⟩
            have HIT3 := Lib.hid ((b.block _ HLT.out).trans HIT.out)
            have HB3 := Lib.hid (below_then HBW.out b)
            clear b
            go_wp2_with fail
            go_roundg g'
            case measure => omega
            case rel => exact ⟨0 + K, _, rfl, rfl, rfl, rfl, HIT3.out, HB3.out, HL.out, by omega, by omega, BB.out⟩
        · rw [if_neg h45] at hleft
          have e45 : ((C : Int) == 45) = false := by simp; omega
          have hv := hvb rfl (.inr h45)
          simp only [] at hleft
          have HL := Lib.hid hleft
          have BB := Lib.hid (show -2000 * ((pos + K : Nat) : Int) ≤ tot * 10 + v ∧ tot * 10 + v ≤ 35184372088832 ∧ 0 ≤ las ∧ las ≤ 1000 ∧ 0 ≤ dgt ∧ dgt ≤ 9 ∧ (s < 9 → 0 ≤ tot * 10 + v) by have := b7 (by omega); omega)
          clear hleft hvb h45 hs9
          go_wp2_with fail
          refine CVh.out.mono ?_
          rintro e w2 ⟨rfl, b⟩
          have HIT3 := Lib.hid ((b.block _ HLT.out).trans HIT.out)
          have HB3 := Lib.hid (below_then HBW.out b)
          clear b
          go_wp2_with fail
          go_roundg g'
          case measure => omega
          case rel => exact ⟨pos + K, _, rfl, rfl, rfl, rfl, HIT3.out, HB3.out, HL.out, by omega, by omega, BB.out⟩
    · have hnx : ∀ ty, (Instr.next (.pointer (some ⟨w.heap.size, 0, none⟩)) true ty).run Tryd.prog wr = _ := fun ty => Lib.run_next_end_at wr w.heap.size S pos ty hit hp2
      have hnil : S.data.toList.drop pos = [] := List.drop_eq_nil_of_le (by rw [str_len]; omega)
      rw [hnil, lenGo_nil] at hleft
      have HF := Lib.hid hleft.symm
      have HBW := Lib.hid hbw
      clear hleft hit hbw hnil
      obtain ⟨tot, las, dgt, ng⟩ := st
      simp only [] at b1 b2 b3 b4 b5 b6 b7 ⊢
      have hp64 : pos ≤ 64 := by omega
      cases ng with
      | true =>
        go_wp2_with fail
        go_ret2
        exact ⟨by rw [HF.out, HNB.out]; rfl, HBW.out⟩
      | false =>
        go_wp2_with fail
        go_ret2
        exact ⟨by rw [HF.out, HNB.out]; rfl, HBW.out⟩
end Go.Proofs.YticflmepmmdnfabDoor
