/- Contracts of slices.Index at changes, of zonetext.edit's comparing and of the search by it. -/
import Derived.Test.YticflmepmmdnfaaDoorZed0
import Derived.Test.YticflmepmmdnfaaDoorZedK
namespace Go.Proofs.YticflmepmmdnfaaDoor
set_option linter.unusedVariables false
set_option maxRecDepth 100000
open Go.RowKit

theorem toList_back {a b : ByteArray} (h : a.toList = b.toList) : a = b := by
  rw [ByteArray.toList_eq, ByteArray.toList_eq] at h
  cases a; cases b
  simpa using Array.toList_inj.1 h
theorem idxC_cons (c x : Chg) (r : List Chg) (k : Nat) : idxC c (x :: r) k = if c = x then (k : Int) else idxC c r (k + 1) := by rw [idxC.eq_def]
set_option maxHeartbeats 2000000 in
theorem zed_Index (w : World) (a : Option Addr) (n c : Nat) (xs : List Chg) (t o : Int) (l : ByteArray) (h : Changes w w.heap.size a n xs) :
    Calls Tryd.prog 34 #[.slice a n c, .agg #[.int .i64 t, .int .i64 o, .string l]] w fun e w' => e = .returned (.int .i64 (idxC (t, o, l) xs 0)) ∧ Below w.heap.size w w' := by
  have L1 := Lib.hid h.len
  have mx := h.max
  have H := Lib.hid h; clear h
  go_enter Tryd.func34, Tryd.ntmps34
  go_wp2_with fail
  have ha := At.new w (.cells #[.int .i64 t, .int .i64 o, .string l] 31)
  have hb : Below w.heap.size w (w.alloc (.cells #[.int .i64 t, .int .i64 o, .string l] 31)) := by (repeat' (first | exact Below.refl _ _ | assumption | refine Below.drew ?_ | refine below_drewN ?_ _ | refine below_new ?_ _ | refine below_set ?_ ?_ _ | refine below_then ?_ (by assumption) | refine below_drawn ?_ (by assumption) | exact Nat.le_refl _ | omega | (simp; done) | (simp; omega)))
  generalize World.alloc w _ = W1 at ha hb ⊢
  have x0 : W1.cell? ⟨w.heap.size, 0, none⟩ = some (.int .i64 t) := ha.cell 0
  have x1 : W1.cell? ⟨w.heap.size, 1, none⟩ = some (.int .i64 o) := ha.cell 1
  have x2 : W1.cell? ⟨w.heap.size, 2, none⟩ = some (.string l) := ha.cell 2
  go_wp2_with fail
  go_loopw [5, 8] (fun _ vi wr => ∃ k : Nat, k ≤ n ∧ vi = .int .i64 k ∧ idxC (t, o, l) (xs.drop k) k = idxC (t, o, l) xs 0 ∧ Drawn W1 wr) (fun _ vi _ => n - (intOf vi).toNat)
  case atStart => exact ⟨0, by omega, rfl, rfl, Drawn.refl _⟩
  case round =>
    obtain ⟨k, hk, rfl, hid, hd⟩ := hrel
    obtain ⟨W2, rfl⟩ : ∃ W2, W2 = wr := ⟨_, rfl⟩
    obtain ⟨ha2, hb2⟩ : At W2 w.heap.size (.cells #[.int .i64 t, .int .i64 o, .string l] 31) ∧ Below w.heap.size w W2 := by
      obtain ⟨nd2, rfl⟩ := hd
      exact ⟨ha.drewN nd2, below_drewN hb nd2⟩
    have HDR := Lib.hid hd
    have HI := Lib.hid hid
    clear ha hb x0 x1 x2 hd hid
    by_cases hlt : k < n
    · obtain ⟨b1, o1, rfl, hbB, hcs⟩ := (H.out.below hb2 (Nat.le_refl _)).open_ (by omega)
      obtain ⟨sa, fa, ga, k0, k1, k2, hx, _⟩ := hcs k hlt
      have HN := Lib.hid ((congrArg (fun r => idxC (t, o, l) r k) (drop_row hx)).symm.trans HI.out)
      clear hcs hx HI
      have x0 : W2.cell? ⟨w.heap.size, 0, none⟩ = some (.int .i64 t) := ha2.cell 0
      have x1 : W2.cell? ⟨w.heap.size, 1, none⟩ = some (.int .i64 o) := ha2.cell 1
      have x2 : W2.cell? ⟨w.heap.size, 2, none⟩ = some (.string l) := ha2.cell 2
      by_cases hq : (t, o, l) = ((sa, fa, ga) : Chg)
      · have HF := Lib.hid (show (k : Int) = idxC (t, o, l) xs 0 by rw [← HN.out, idxC_cons, if_pos hq])
        simp only [Prod.mk.injEq] at hq
        obtain ⟨rfl, rfl, rfl⟩ := hq
        clear HN
        go_wp2_with fail
        go_quiet (fail)
        go_wp2_with fail
        go_ret
        exact ⟨by rw [HF.out]; rfl, by first | exact below_drewN hb2 _ | exact hb2⟩
      · have HF := Lib.hid (show idxC (t, o, l) (xs.drop (k + 1)) (k + 1) = idxC (t, o, l) xs 0 by rw [← HN.out, idxC_cons, if_neg hq])
        have hc : (t == sa) = false ∨ (t = sa ∧ (o == fa) = false) ∨ (t = sa ∧ o = fa ∧ (l.toList == ga.toList) = false) := by
          by_cases h1 : t = sa
          · by_cases h2 : o = fa
            · refine .inr (.inr ⟨h1, h2, ?_⟩)
              rw [beq_eq_false_iff_ne]
              intro e
              exact hq (by rw [h1, h2, toList_back e])
            · exact .inr (.inl ⟨h1, by simpa using h2⟩)
          · exact .inl (by simpa using h1)
        clear HN hq
        rcases hc with hc | ⟨rfl, hc⟩ | ⟨rfl, rfl, hc⟩
        all_goals
          go_wp2_with fail
          go_quiet (fail)
          go_wp2_with fail
          go_roundw
          case rel => exact ⟨k + 1, by omega, by go_num, HF.out, by first | exact HDR.out.drewN _ | exact HDR.out⟩
          case measure => first | (simp [intOf]; done) | (simp [intOf]; omega)
    · have HE := Lib.hid (show idxC (t, o, l) xs 0 = -1 by
        rw [← HI.out, List.drop_eq_nil_of_le (by have := L1.out; omega)]; rfl)
      clear HI
      go_wp2_with fail
      go_ret
      exact ⟨by rw [HE.out]; rfl, hb2⟩
end Go.Proofs.YticflmepmmdnfaaDoor
