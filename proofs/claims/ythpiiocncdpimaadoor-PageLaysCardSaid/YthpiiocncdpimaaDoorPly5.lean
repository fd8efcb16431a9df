/- Cuts of a list of rows; the closures of page.Lay; page.inRange. -/
import Derived.Test.YthpiiocncdpimaaDoorPly4
import Derived.Test.YthpiiocncdpimaaDoorOne
namespace Go.Proofs.YthpiiocncdpimaaDoor
set_option linter.unusedVariables false
set_option linter.unusedSimpArgs false
set_option maxRecDepth 100000
open Go.RowKit Go.Shelf

/-- A list of rows, as a slice that may be nil. -/
structure RowsC (W : World) (B : Nat) (a : Option Addr) (n c : Nat) (rs : List (List ByteArray)) : Prop where
  rows : RowsAt W B a n rs
  le : n ≤ c
  max : c ≤ 9223372036854775807
  nil : a = none → n = 0 ∧ c = 0
theorem RowsC.below {w w' : World} {B B' : Nat} {a : Option Addr} {n c : Nat} {rs : List (List ByteArray)} (h : RowsC w B a n c rs) (hb : Below B' w w') (hB : B ≤ B') : RowsC w' B a n c rs := ⟨h.rows.below hb hB, h.le, h.max, h.nil⟩
theorem rows_lo {w : World} {B : Nat} {a : Option Addr} {n c : Nat} {rs : List (List ByteArray)} (h : RowsC w B a n c rs) (k : Nat) (hk : k ≤ n) :
    ∃ a', (∀ W, (Instr.sliceAt 23 (.slice a n c) (some (.int .i64 (k : Int))) none none).run Tryd.prog W = .ok (.slice a' (n - k) (c - k)) W) ∧ (∀ W, (Instr.slice 23 (.slice a n c) (some (.int .i64 (k : Int))) none none).run Tryd.prog W = .ok (.slice a' (n - k) (c - k)) W) ∧ RowsC w B a' (n - k) (c - k) (rs.drop k) := by
  have hle := h.le; have hmx := h.max
  have key : ∀ a', (∀ W, (Instr.slice 23 (.slice a n c) (some (.int .i64 (k : Int))) none none).run Tryd.prog W = .ok (.slice a' (n - k) (c - k)) W) → RowsC w B a' (n - k) (c - k) (rs.drop k) → ∃ a', (∀ W, (Instr.sliceAt 23 (.slice a n c) (some (.int .i64 (k : Int))) none none).run Tryd.prog W = .ok (.slice a' (n - k) (c - k)) W) ∧ (∀ W, (Instr.slice 23 (.slice a n c) (some (.int .i64 (k : Int))) none none).run Tryd.prog W = .ok (.slice a' (n - k) (c - k)) W) ∧ RowsC w B a' (n - k) (c - k) (rs.drop k) := fun a' h1 h2 =>
    ⟨a', fun W => by rw [run_sliceAt_slice W 23 _ _ _ _ (by kernel_rfl)]; exact h1 W, h1, h2⟩
  have hsz : ∀ W, (sizeOf (Tryd.prog.elem 23)).run Tryd.prog W = .ok 1 W := fun W => by kernel_rfl
  by_cases h0 : k = 0
  · subst h0
    refine key a (fun W => ?_) (by simpa using h)
    rw [run_slice_l W 23 a n c (by kernel_rfl) .i64 (0 : Nat) (by omega) (by omega), hsz]
    cases a with
    | none => simp [sliced, Result.andThen]
    | some p => simp [sliced, Result.andThen, Addr.add]
  · obtain ⟨b, off, rfl, hb, hc⟩ := h.rows.2.2 (by omega)
    refine key (if c = k then some ⟨b, off, none⟩ else some ⟨b, off + k, none⟩) (fun W => ?_) ⟨⟨by rw [List.length_drop, h.rows.1], by omega, fun hn => ?_⟩, by omega, by omega, fun e => by split at e <;> cases e⟩
    · rw [run_slice_l W 23 (some ⟨b, off, none⟩) n c (by kernel_rfl) .i64 k (by omega) (by omega), hsz]
      by_cases hck : c = k
      · simp [sliced, Result.andThen, hck]
      · simp [sliced, Result.andThen, Addr.add, h0, hck]
    · refine ⟨b, off + k, if_neg (by omega), hb, fun i hi => ?_⟩
      obtain ⟨ai, ci, q1, q2, q3, q4⟩ := hc (k + i) (by omega)
      have e : (rs.drop k).getD i [] = rs.getD (k + i) [] := by simp [List.getD_eq_getElem?_getD]
      rw [e, Nat.add_assoc]
      exact ⟨ai, ci, q1, q2, q3, q4⟩
theorem rows_hi {w : World} {B : Nat} {a : Option Addr} {n c : Nat} {rs : List (List ByteArray)} (h : RowsC w B a n c rs) (k : Nat) (hk : k ≤ n) :
    (∀ W, (Instr.sliceAt 23 (.slice a n c) none (some (.int .i64 (k : Int))) none).run Tryd.prog W = .ok (.slice a k c) W) ∧ (∀ W, (Instr.slice 23 (.slice a n c) none (some (.int .i64 (k : Int))) none).run Tryd.prog W = .ok (.slice a k c) W) ∧ RowsC w B a k c (rs.take k) := by
  have hle := h.le; have hmx := h.max
  have hsz : ∀ W, (sizeOf (Tryd.prog.elem 23)).run Tryd.prog W = .ok 1 W := fun W => by kernel_rfl
  have h1 : ∀ W, (Instr.slice 23 (.slice a n c) none (some (.int .i64 (k : Int))) none).run Tryd.prog W = .ok (.slice a k c) W := fun W => by
    rw [run_slice_h W 23 a n c (by kernel_rfl) .i64 k (by omega) (by omega), hsz]
    cases a with
    | none => simp [sliced, Result.andThen]
    | some p => simp [sliced, Result.andThen, Addr.add]
  refine ⟨fun W => by rw [run_sliceAt_slice W 23 _ _ _ _ (by kernel_rfl)]; exact h1 W, h1, ⟨⟨by rw [List.length_take, h.rows.1]; omega, by have := h.rows.2.1; omega, fun hn => ?_⟩, by omega, hmx, fun e => by have := h.nil e; omega⟩⟩
  obtain ⟨b, off, e, hb, hc⟩ := h.rows.2.2 (by omega)
  refine ⟨b, off, e, hb, fun i hi => ?_⟩
  obtain ⟨ai, ci, q1, q2, q3, q4⟩ := hc i (by omega)
  have e : (rs.take k).getD i [] = rs.getD i [] := by simp [List.getD_eq_getElem?_getD, hi]
  rw [e]
  exact ⟨ai, ci, q1, q2, q3, q4⟩
set_option maxHeartbeats 2000000 in
theorem page_inRange (w h : Int) (W : World) : Calls Tryd.prog 28 #[.int .i64 w, .int .i64 h] W fun e W' => e = .returned (.bool (decide (20 ≤ w ∧ w ≤ 200 ∧ 4 ≤ h ∧ h ≤ 100))) ∧ W = W' := by
  obtain ⟨R, hR⟩ : ∃ R, R = decide (20 ≤ w ∧ w ≤ 200 ∧ 4 ≤ h ∧ h ≤ 100) := ⟨_, rfl⟩
  rw [← hR]
  have HR := Lib.hid hR
  clear hR
  by_cases h1 : 20 ≤ w
  · by_cases h2 : w ≤ 200
    · by_cases h3 : 4 ≤ h
      · by_cases h4 : h ≤ 100
        · go_enter Tryd.func28, Tryd.ntmps28
          go_wp2_with fail
          go_ret
          exact ⟨ret_bool (by rw [HR.out]; exact (decide_eq_true (by omega)).symm), rfl⟩
        · go_enter Tryd.func28, Tryd.ntmps28
          go_wp2_with fail
          go_ret
          exact ⟨ret_bool (by rw [HR.out]; exact (decide_eq_false (by omega)).symm), rfl⟩
      · go_enter Tryd.func28, Tryd.ntmps28
        go_wp2_with fail
        go_ret
        exact ⟨ret_bool (by rw [HR.out]; exact (decide_eq_false (by omega)).symm), rfl⟩
    · go_enter Tryd.func28, Tryd.ntmps28
      go_wp2_with fail
      go_ret
      exact ⟨ret_bool (by rw [HR.out]; exact (decide_eq_false (by omega)).symm), rfl⟩
  · go_enter Tryd.func28, Tryd.ntmps28
    go_wp2_with fail
    go_ret
    exact ⟨ret_bool (by rw [HR.out]; exact (decide_eq_false (by omega)).symm), rfl⟩
theorem lay_head (W : World) (T n1 c1 : Nat) (a1 : Option Addr) (v : Value) (hd : List ByteArray) (c : Nat) (hT : W.cell? ⟨T, 0, none⟩ = some (.slice a1 n1 c1)) (h : Strs W W.heap.size a1 n1 hd) (hc : c < n1) :
    Calls Tryd.prog 32 #[.int .i64 (c : Int), .pointer (some ⟨T, 0, none⟩)] W fun e w' => e = .returned (.string (cellO hd c)) ∧ W = w' := by
  obtain ⟨b, off, rfl, hb, x0⟩ := str_at h hc
  clear h
  go_enter Tryd.func32, Tryd.ntmps32
  go_wp2_with fail
  go_ret
  exact ⟨rfl, rfl⟩
theorem lay_row (W : World) (T n1 c1 : Nat) (a1 : Option Addr) (hd : List ByteArray) (c : Nat) (hT : W.cell? ⟨T, 0, none⟩ = some (.slice a1 n1 c1)) (h : Strs W W.heap.size a1 n1 hd) (hc : c < n1) :
    Calls Tryd.prog 35 #[.int .i64 (c : Int), .pointer (some ⟨T, 0, none⟩)] W fun e w' => e = .returned (.string (cellO hd c)) ∧ W = w' := by
  obtain ⟨b, off, rfl, hb, x0⟩ := str_at h hc
  clear h
  go_enter Tryd.func35, Tryd.ntmps35
  go_wp2_with fail
  go_ret
  exact ⟨rfl, rfl⟩
theorem lay_dash (W : World) (T c1 : Nat) (a1 : Option Addr) (Ws : List Nat) (c : Nat) (hT : W.cell? ⟨T, 0, none⟩ = some (.slice a1 Ws.length c1)) (h : Ints W W.heap.size a1 Ws.length (nz Ws)) (hc : c < Ws.length) (hW : Ws.getD c 0 ≤ 200) :
    Calls Tryd.prog 33 #[.int .i64 (c : Int), .pointer (some ⟨T, 0, none⟩)] W fun e w' => e = .returned (.string ⟨(List.replicate (Ws.getD c 0) 45).toArray⟩) ∧ Below W.heap.size W w' := by
  obtain ⟨b, off, rfl, hb, x0⟩ := nat_at h hc
  have CR := Lib.hid (lib_Repeat1 45 (Ws.getD c 0) W (by omega))
  generalize Ws.getD c 0 = x at x0 CR hW ⊢
  obtain ⟨R, hR⟩ : ∃ R, R = List.replicate x (45 : UInt8) := ⟨_, rfl⟩
  rw [← hR] at CR ⊢
  generalize Ws.length = n at hT hc
  clear h hR
  go_enter Tryd.func33, Tryd.ntmps33
  go_wp2_with fail
  refine CR.out.mono ?_
  rintro e w' ⟨rfl, hb'⟩
  go_wp2_with fail
  go_ret
  exact ⟨rfl, hb'⟩
end Go.Proofs.YthpiiocncdpimaaDoor
