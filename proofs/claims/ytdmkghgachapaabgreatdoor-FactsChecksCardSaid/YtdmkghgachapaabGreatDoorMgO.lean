/- Several texts in one: Own, Comp0. -/
import Derived.Test.YtdmkghgachapaabGreatDoorMgA
import Derived.Deep.AppendLies
import Derived.Test.YtdmkghgachapaabGreatDoorMgB
import Derived.Test.YtdmkghgachapaabGreatDoorMg5
import Derived.Lib.SliceRun
set_option linter.unusedSimpArgs false
namespace Go.Proofs.YtdmkghgachapaabGreatDoor
set_option linter.unusedVariables false
set_option maxRecDepth 100000
open Go.RowKit
theorem own_ints {w : World} {base : Nat} {v : Value} {n : Nat} {zs : List Int} (h : w.ownsRow base 3 1 v n (zs.map (Value.int .i64))) (hI : ∀ x ∈ zs, I64 x) (hn : zs.length = n) : ∃ a c, v = .slice a n c ∧ n ≤ c ∧ c ≤ 9223372036854775807 ∧ Ints w w.heap.size a n zs := by
  rcases h.2 with ⟨rfl, h0⟩ | ⟨g, cap, cur, rfl, _, hcur, hnc, hcm, hcs, htake⟩
  · have hz : n = 0 := h0
    subst hz
    exact ⟨none, 0, rfl, by omega, by omega, hn, by omega, hI, fun h => absurd h (by omega)⟩
  · unfold maxLen at hcm
    have hat : At w g (.cells cur 3) := hcur
    have ht : cur.toList.take n = zs.map (Value.int .i64) := by simpa using htake
    refine ⟨some ⟨g, 0, none⟩, cap, rfl, hnc, by omega, hn, by omega, hI, fun _ => ⟨g, 0, rfl, hat.lt, fun i hi => ?_⟩⟩
    have h1 : (cur.toList.take n)[i]? = some (.int .i64 (zs.getD i 0)) := by
      rw [ht, List.getElem?_map, List.getD_eq_getElem?_getD, List.getElem?_eq_getElem (by omega)]; rfl
    rw [List.getElem?_take, if_pos hi, Array.getElem?_toList] at h1
    rw [hat.cell (0 + i), Nat.zero_add, h1]
end Go.Proofs.YtdmkghgachapaabGreatDoor

set_option linter.unusedSimpArgs false
namespace Go.Proofs.YtdmkghgachapaabGreatDoor
set_option linter.unusedVariables false
set_option maxRecDepth 100000
open Go.RowKit
theorem Tryz.infoMonth : (Tryz.prog.info? 128).map (fun i => (i.zero, i.size, i.bytes)) = some (some (.agg #[.string ByteArray.empty, .int .i64 0, .int .i64 0]), 3, 32) := by kernel_rfl
theorem mon_len (ms : List Mon) : (ms.flatMap encM).length = ms.length * 3 := by
  induction ms with
  | nil => rfl
  | cons x l ih => rw [List.flatMap_cons, List.length_append, ih, List.length_cons, Nat.add_mul]; simp [encM]; omega
theorem mon_at : ∀ (ms : List Mon) (i : Nat) (x : Mon) (j : Nat) (v : Value), ms[i]? = some x → (encM x)[j]? = some v → (ms.flatMap encM)[i * 3 + j]? = some v
  | [], i, x, j, v, h, _ => by simp at h
  | y :: l, 0, x, j, v, h, hv => by
    simp at h; subst h
    have hj : j < 3 := by
      rcases Nat.lt_or_ge j 3 with h | h
      · exact h
      · rw [List.getElem?_eq_none (by simp [encM]; omega)] at hv; cases hv
    rw [List.flatMap_cons, List.getElem?_append_left (by simp [encM]; omega)]
    simpa using hv
  | y :: l, i + 1, x, j, v, h, hv => by
    rw [List.flatMap_cons, List.getElem?_append_right (by simp [encM]; omega)]
    have := mon_at l i x j v (by simpa using h) hv
    rw [show (i + 1) * 3 + j - (encM y).length = i * 3 + j by simp [encM]; omega]
    exact this
theorem mon_split (ms : List Mon) (k : Nat) (v : Value) (h : (ms.flatMap encM)[k]? = some v) : ∃ x, ms[k / 3]? = some x ∧ (encM x)[k % 3]? = some v := by
  have hk : k < ms.length * 3 := by
    rcases Nat.lt_or_ge k (ms.length * 3) with h' | h'
    · exact h'
    · rw [List.getElem?_eq_none (by rw [mon_len]; exact h')] at h; cases h
  have hx : ms[k / 3]? = some (ms[k / 3]'(by omega)) := List.getElem?_eq_getElem (by omega)
  refine ⟨_, hx, ?_⟩
  have hj : k % 3 < 3 := Nat.mod_lt _ (by omega)
  have hv : (encM (ms[k / 3]'(by omega)))[k % 3]? = some ((encM (ms[k / 3]'(by omega)))[k % 3]'(by simp [encM]; omega)) := List.getElem?_eq_getElem _
  have := mon_at ms (k / 3) _ (k % 3) _ hx hv
  rw [show k / 3 * 3 + k % 3 = k by omega, h] at this
  rw [hv, this]
theorem own_months {w : World} {base : Nat} {v : Value} {n : Nat} {ms : List Mon} (h : w.ownsRow base 128 3 v n (ms.flatMap encM)) (hn : ms.length = n) (hok : ∀ x ∈ ms, okM x) :
    ∃ a c, v = .slice a n c ∧ n ≤ c ∧ c ≤ 9223372036854775807 ∧ Months w w.heap.size a n ms := by
  rcases h.2 with ⟨rfl, h0⟩ | ⟨g, cap, cur, rfl, _, hcur, hnc, hcm, hcs, htake⟩
  · subst h0
    exact ⟨none, 0, rfl, by omega, by omega, ⟨hn, by omega, fun h => absurd h (by omega)⟩, hok⟩
  · unfold maxLen at hcm
    have hat : At w g (.cells cur 128) := hcur
    refine ⟨some ⟨g, 0, none⟩, cap, rfl, hnc, by omega, ⟨hn, by omega, fun _ => ⟨g, 0, rfl, hat.lt, fun i x hx j u hu => ?_⟩⟩, hok⟩
    have h1 := mon_at ms i x j u hx hu
    rw [← htake, List.getElem?_take] at h1
    split at h1
    · rw [hat.cell, ← h1, Nat.zero_add, Array.getElem?_toList]
    · cases h1
def ClonePost (w : World) (n : Nat) (ms : List Mon) (e : Ending) (w' : World) : Prop := ∃ a c, e = .returned (.slice a n c) ∧ n ≤ c ∧ w'.ownsRow w.heap.size 128 3 (.slice a n c) n (ms.flatMap encM) ∧ Below w.heap.size w w'
set_option maxHeartbeats 2000000 in
theorem clone_months (w : World) (a : Option Addr) (n c : Nat) (ms : List Mon) (h : Months w w.heap.size a n ms) (hn1 : 1 ≤ n) (hn : n ≤ 20) :
    Calls Tryz.prog 85 #[.slice a n c] w (ClonePost w n ms) := by
  obtain ⟨i0, hi, hz0, hz1, hz2⟩ := info_parts Tryz.infoMonth
  obtain ⟨b, off, rfl, hb, hc⟩ := h.1.2.2 (by omega)
  have HC := Lib.hid hc; have HL := Lib.hid h.len; have HK := Lib.hid h.2
  clear h hc
  have q22 : ∀ (w : World) (a : Option Addr) (n c n' c' : Nat), (binOp .eql 89 (.slice a n c) (.slice none n' c')).run Tryz.prog w = .ok (.bool a.isNone) w := fun w a n c n' c' => Lib.run_eql_slice_nil w _ _ a n c n' c' Tryz.underlying89
  go_enter Tryz.func85, Tryz.ntmps85
  go_wp2_with (at_builtin; refine wpList_append_own _ rfl _ _ 89 rfl w.heap.size 128 i0 (.agg #[.string ByteArray.empty, .int .i64 0, .int .i64 0]) 3 32 Tryz.underlying89 hi hz0 hz1 hz2 rfl (by decide) _ _ _ rfl (World.ownsRow_made w #[] 0 (Nat.le_refl _) (Nat.zero_le _) rfl) ⟨b, off, none⟩ n c (ms.flatMap encM) rfl ?c1 ?c2 ?c3 ?c4 ?c5 ?c6 ?_)
  case c1 => rw [mon_len, HL.out]
  case c2 =>
    intro j u hj
    obtain ⟨x, hx, hu⟩ := mon_split ms j u hj
    have h1 := HC.out _ x hx _ u hu
    rw [show off + j / 3 * 3 + j % 3 = off + j by omega] at h1
    rw [add_none]
    rw [← h1]
    exact (below_new (Below.refl _ w) _).cell (p := ⟨b, _, none⟩) hb
  case c3 =>
    intro u hu
    obtain ⟨x, _, hx⟩ := List.mem_flatMap.1 hu
    simp [encM] at hx
    rcases hx with rfl | rfl | rfl <;> rfl
  case c4 => unfold maxLen; omega
  case c5 => omega
  case c6 => simp
  intro v' w1 hown hgrow hnil
  have hown' : w1.ownsRow w.heap.size 128 3 v' n (ms.flatMap encM) := by simpa using hown
  obtain ⟨aa, cc, rfl, h1, h2, h3⟩ := own_months hown' HL.out HK.out
  have hb1 : Below w.heap.size w w1 := ((Below.refl _ w).alloc (Nat.le_refl _) _).grown hgrow (by simp) (by intro k hk; simp [Value.ownBlock] at hk; omega)
  have H3 := Lib.hid hown'; clear hown hown' hgrow hnil h3
  go_wp2_with fail
  go_ret
  exact ⟨aa, cc, rfl, h1, H3.out, hb1⟩
end Go.Proofs.YtdmkghgachapaabGreatDoor
