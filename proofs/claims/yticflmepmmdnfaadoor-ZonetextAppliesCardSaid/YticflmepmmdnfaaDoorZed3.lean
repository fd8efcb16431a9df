/- Contract of zonetext.edit. -/
import Derived.Test.YticflmepmmdnfaaDoorZed1
import Derived.Test.YticflmepmmdnfaaDoorZed2
import Derived.Test.YticflmepmmdnfaaDoorDelZ
namespace Go.Proofs.YticflmepmmdnfaaDoor
set_option linter.unusedVariables false
set_option maxRecDepth 100000
open Go.RowKit

theorem grown_below {a w : World} {row : Option Nat} (h : Below a.heap.size a w) : a.grownBy w row := ⟨h.os, h.tape, h.output, h.size, fun k hk _ => h.block k hk⟩
theorem grown_trans {a b c : World} {row : Option Nat} (h : a.grownBy b row) (k : b.grownBy c row) : a.grownBy c row :=
  ⟨k.os.trans h.os, k.tape.trans h.tape, k.output.trans h.output, Nat.le_trans h.size k.size, fun i hi hne => (k.block i (Nat.lt_of_lt_of_le hi h.size) hne).trans (h.block i hi hne)⟩
theorem chg_take : ∀ (ms : List Chg) (i : Nat), (ms.flatMap encChg).take (i * 3) = (ms.take i).flatMap encChg
  | [], i => by simp
  | x :: r, 0 => by simp
  | x :: r, i + 1 => by
    have hl : (encChg x).length = 3 := rfl
    rw [List.flatMap_cons, show (i + 1) * 3 = (encChg x).length + i * 3 by omega, List.take_length_add_append, chg_take r i, List.take_succ_cons, List.flatMap_cons]
theorem chg_drop : ∀ (ms : List Chg) (i : Nat), (ms.flatMap encChg).drop (i * 3) = (ms.drop i).flatMap encChg
  | [], i => by simp
  | x :: r, 0 => by simp
  | x :: r, i + 1 => by
    have hl : (encChg x).length = 3 := rfl
    rw [List.flatMap_cons, show (i + 1) * 3 = (encChg x).length + i * 3 by omega, List.drop_length_add_append, chg_drop r i, List.drop_succ_cons]
/-- What one edit leaves: the error, and a row of the call's own with the list. -/
def EdPost (base : Nat) (v : Value) (ms : List Chg) (x : Edt) (w : World) (e : Ending) (w' : World) : Prop :=
  ∃ v', e = .returned (.tuple #[v', .int .i64 (edF ms x).1]) ∧ w'.ownsRow base 31 3 v' (edF ms x).2.length ((edF ms x).2.flatMap encChg) ∧ w.grownBy w' v.ownBlock ∧ ∀ g, v'.ownBlock = some g → v.ownBlock = some g ∨ w.heap.size ≤ g
theorem edF_len1 {ms : List Chg} {c : Chg} {i n : Nat} (ho : Ord ms) (hl : ms.length = n) (hi : idxC c ms 0 = (i : Int)) : i < n ∧ edF ms (1, c) = (0, ms.take i ++ ms.drop (i + 1)) := by
  have hb := idxC_bounds c ms 0
  have hin : i < n := by omega
  refine ⟨hin, ?_⟩
  have hm : ¬ idxC c ms 0 < 0 := by omega
  rw [idxC_neg, Classical.not_not] at hm
  unfold edF
  rw [if_pos rfl, if_pos (by rw [List.any_eq_true]; exact ⟨c, hm, by simp⟩), idxC_del c ms 0 i ho (by simpa using hi)]
theorem edF_none {ms : List Chg} {c : Chg} (hi : idxC c ms 0 < 0) : edF ms (1, c) = (6, []) := by
  rw [idxC_neg] at hi
  unfold edF
  rw [if_pos rfl, if_neg (by rw [List.any_eq_true]; rintro ⟨x, hx, h⟩; simp at h; exact hi (h ▸ hx))]
set_option maxHeartbeats 4000000 in
theorem zed_edit (w : World) (base n : Nat) (v : Value) (ms : List Chg) (k t o : Int) (l : ByteArray) (hown : w.ownsRow base 31 3 v n (ms.flatMap encChg)) (hbase : base ≤ w.heap.size) (hlen : ms.length = n) (hok : ∀ x ∈ ms, okChg x) (ho : Ord ms) (hn : n ≤ 100000) :
    Calls Tryd.prog 25 #[v, .agg #[.int .i64 k, .int .i64 t, .int .i64 o, .string l]] w (EdPost base v ms (k, (t, o, l)) w) := by
  obtain ⟨a, c, rfl, _, _, hch⟩ := own_changes hown hlen hok
  have OWN := Lib.hid hown; have OK := Lib.hid hok; have HO := Lib.hid ho; have CH := Lib.hid hch; have LEN := Lib.hid hlen
  clear hown hok ho hch hlen
  have hk : k = 1 ∨ (k ≠ 1 ∧ k = 2) ∨ (k ≠ 1 ∧ k ≠ 2) := by omega
  rcases hk with rfl | ⟨hk1, rfl⟩ | ⟨hk1, hk2⟩
  case inr.inr =>
    have HF := Lib.hid (show edF ms (k, (t, o, l)) = (1, []) by unfold edF; rw [if_neg hk1, if_neg hk2])
    go_enter Tryd.func25, Tryd.ntmps25
    go_wp2_with fail
    go_ret2
    exact ⟨.slice none 0 0, by rw [HF.out]; rfl, by rw [HF.out]; exact World.ownsRow_nil _ _ _ _, World.grownBy_alloc _ _ _, fun g h => by simp [Value.ownBlock] at h⟩
  case inl =>
    go_enter Tryd.func25, Tryd.ntmps25
    go_wp2_with fail
    have hb0 : Below w.heap.size w (w.alloc (.cells #[.int .i64 1, .int .i64 t, .int .i64 o, .string l] 33)) := by (repeat' (first | exact Below.refl _ _ | assumption | refine Below.drew ?_ | refine below_drewN ?_ _ | refine below_new ?_ _ | refine below_set ?_ ?_ _ | refine below_then ?_ (by assumption) | refine below_drawn ?_ (by assumption) | exact Nat.le_refl _ | omega | (simp; done) | (simp; omega)))
    have ha0 := At.new w (.cells #[.int .i64 1, .int .i64 t, .int .i64 o, .string l] 33)
    generalize World.alloc w _ = W1 at hb0 ha0 ⊢
    refine (zed_Index _ a n c ms t o l (CH.out.then_ hb0)).mono ?_
    rintro e w2 ⟨rfl, hb1⟩
    have hb2 := below_then hb0 hb1
    have ha2 := ha0.then_ hb1
    clear hb0 ha0 hb1
    rcases Int.lt_or_le (idxC (t, o, l) ms 0) 0 with hneg | hpos
    · have HF := Lib.hid (edF_none hneg)
      go_wp2_with fail
      go_ret2
      exact ⟨.slice none 0 0, by rw [HF.out]; rfl, by rw [HF.out]; exact World.ownsRow_nil _ _ _ _, grown_below hb2, fun g h => by simp [Value.ownBlock] at h⟩
    · obtain ⟨i, hi⟩ := Int.eq_ofNat_of_zero_le hpos
      obtain ⟨hin, hf⟩ := edF_len1 HO.out LEN.out hi
      have HF := Lib.hid hf; clear hf hpos
      rw [hi]; clear hi
      have hw1 : IntKind.i64.wrap ((i : Int) + 1) = (i : Int) + 1 := IntWalk.i64_in _ (by omega)
      go_wp2_with fail
      refine (chg_delete base n i _ _ w2 (own_then4 OWN.out hb2) hin (by omega) (fun u hu => chg_one hu)).mono ?_
      rintro e w3 ⟨v', rfl, own3, hg3, hv'⟩
      have HG := Lib.hid (grown_trans (grown_below (a := w) hb2) hg3)
      have HV := Lib.hid hv'
      have O3 := Lib.hid own3
      clear own3 hg3 hb2 ha2 hv'
      go_wp2_with fail
      go_ret2
      refine ⟨v', by rw [HF.out]; rfl, ?_, HG.out, fun g h => .inl (by rw [← HV.out]; exact h)⟩
      rw [HF.out]
      have h3 := O3.out
      rw [chg_take, chg_drop, ← List.flatMap_append] at h3
      have hl : (ms.take i ++ ms.drop (i + 1)).length = n - 1 := by
        rw [List.length_append, List.length_take, List.length_drop, LEN.out]; omega
      show World.ownsRow _ _ _ _ _ (ms.take i ++ ms.drop (i + 1)).length _
      rw [hl]; exact h3
  case inr.inl =>
    go_enter Tryd.func25, Tryd.ntmps25
    go_wp2_with fail
    have hb0 : Below w.heap.size w (w.alloc (.cells #[.int .i64 2, .int .i64 t, .int .i64 o, .string l] 33)) := by (repeat' (first | exact Below.refl _ _ | assumption | refine Below.drew ?_ | refine below_drewN ?_ _ | refine below_new ?_ _ | refine below_set ?_ ?_ _ | refine below_then ?_ (by assumption) | refine below_drawn ?_ (by assumption) | exact Nat.le_refl _ | omega | (simp; done) | (simp; omega)))
    have ha0 := At.new w (.cells #[.int .i64 2, .int .i64 t, .int .i64 o, .string l] 33)
    generalize World.alloc w _ = W1 at hb0 ha0 ⊢
    refine (zed_search _ a n c ms t HO.out (by omega) (CH.out.then_ hb0)).mono ?_
    rintro e w2 ⟨rfl, hb1⟩
    have hb2 := below_then hb0 hb1
    have ha2 := ha0.then_ hb1
    clear hb0 ha0 hb1
    cases hh : hasT ms t with
    | true =>
      have HF := Lib.hid (show edF ms (2, (t, o, l)) = (7, []) by unfold edF; rw [if_neg (by simp), if_pos rfl, if_pos hh])
      clear hh
      go_wp2_with fail
      go_ret2
      exact ⟨.slice none 0 0, by rw [HF.out]; rfl, by rw [HF.out]; exact World.ownsRow_nil _ _ _ _, grown_below hb2, fun g h => by simp [Value.ownBlock] at h⟩
    | false =>
      have HF := Lib.hid (show edF ms (2, (t, o, l)) = (0, insC ms (t, o, l)) by unfold edF; rw [if_neg (by simp), if_pos rfl, if_neg (by simp only at *; rw [hh]; simp)])
      clear hh
      have hle := cntT_le ms t
      obtain ⟨i, hi⟩ : ∃ i, i = cntT ms t := ⟨_, rfl⟩
      rw [← hi] at hle ⊢
      have HI := Lib.hid hi; clear hi
      have hin : i ≤ n := by have := LEN.out; omega
      clear hle
      have y1 : w2.cell? ⟨w.heap.size, 1, none⟩ = some (.int .i64 t) := ha2.cell 1
      have y2 : w2.cell? ⟨w.heap.size, 2, none⟩ = some (.int .i64 o) := ha2.cell 2
      have y3 : w2.cell? ⟨w.heap.size, 3, none⟩ = some (.string l) := ha2.cell 3
      go_wp2_with fail
      have own2 := own_then4 OWN.out hb2
      have hne := own_fresh own2
      refine (chg_insert base n i w2.heap.size _ _ [.int .i64 t, .int .i64 o, .string l] _ (own2.alloc _) (by have := hb2.size; have := World.size_alloc w2 (.cells #[.int .i64 t, .int .i64 o, .string l] 31); omega) hin (by omega) (At.new w2 _) (fun e => hne e.symm) rfl (by simp [Value.oneCell']) (fun u hu => chg_one hu)).mono ?_
      rintro e w3 ⟨v', rfl, own3, hg3, hv'⟩
      have HG := Lib.hid (grown_trans (grown_trans (grown_below (a := w) hb2) (World.grownBy_alloc w2 _ _)) hg3)
      have HV := Lib.hid hv'
      have O3 := Lib.hid own3
      have hsz := hb2.size
      clear own3 hg3 hb2 ha2 hv' y1 y2 y3 own2 hne
      go_wp2_with fail
      go_ret2
      refine ⟨v', by rw [HF.out]; rfl, ?_, HG.out, fun g h => (HV.out g h).imp id (fun h2 => by simp at h2; omega)⟩
      rw [HF.out]
      have h3 := O3.out
      rw [chg_take, chg_drop, show ([.int .i64 t, .int .i64 o, .string l] : List Value) = [((t, o, l) : Chg)].flatMap encChg by simp [encChg], ← List.flatMap_append, ← List.flatMap_append] at h3
      have hl : (insC ms (t, o, l)).length = n + 1 := by
        unfold insC
        have := cntT_le ms t
        rw [List.length_append, List.length_append, List.length_take, List.length_drop, LEN.out]; simp; have := LEN.out; omega
      show World.ownsRow _ _ _ _ _ (insC ms (t, o, l)).length ((insC ms (t, o, l)).flatMap encChg)
      rw [hl, insC, ← HI.out]; exact h3
end Go.Proofs.YticflmepmmdnfaaDoor
