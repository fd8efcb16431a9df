/- strings.SplitSeq: an iterator over the pieces of a string between the instances of a separator. -/
import Derived.Test.YtdmkghgachapaaaDoorSeq
import Derived.Lib.Split
import Derived.Lib.IndexBytes
import Derived.Lib.IndexMore
namespace Go.Proofs.YtdmkghgachapaaaDoor
set_option linter.unusedVariables false
set_option maxRecDepth 100000
open Go.RowKit Go.Shelf
attribute [local go_sem] Oper.semAt_some

/-- The pieces of a string between the instances of sep. -/
def pcs (sep t : ByteArray) : List ByteArray := Lib.splitB sep 0 (Lib.count t.data.toList sep.data.toList) t
theorem pcs_miss {sep t : ByteArray} (h : Lib.index t.data.toList sep.data.toList = -1) : pcs sep t = [t] := Lib.splitB_miss _ _ _ _ h
theorem pcs_hit {sep t : ByteArray} {i : Nat} (hs : 1 ≤ sep.size) (h : Lib.index t.data.toList sep.data.toList = i) : pcs sep t = t.extract 0 i :: pcs sep (t.extract (i + sep.size) t.size) := by
  have hne : sep.data.toList ≠ [] := by
    intro e
    have : sep.size = 0 := by show sep.data.size = 0; rw [← Array.length_toList, e]; rfl
    omega
  unfold pcs
  rw [Lib.count_hit hne h, Nat.add_comm 1, Lib.splitB_hit _ _ _ _ i h, Nat.add_zero, Lib.extract_to_end]
  rw [show sep.data.toList.length = sep.size from by show sep.data.toList.length = sep.data.size; simp]
theorem pcs_data (sep t : ByteArray) : (pcs sep t).map (fun x => x.data.toList) = Lib.split t.data.toList sep.data.toList := Lib.splitB_data _ _ _ _
theorem index_le {t sep : ByteArray} {i : Nat} (h : Lib.index t.data.toList sep.data.toList = i) : i + sep.size ≤ t.size := by
  have := Lib.index_room t.data.toList sep.data.toList (by omega)
  rw [h] at this
  have e1 : sep.data.toList.length = sep.size := by show sep.data.toList.length = sep.data.size; simp
  have e2 : t.data.toList.length = t.size := by show t.data.toList.length = t.data.size; simp
  omega
/-- What strings.Index must do for the iterator, at a string no longer than the whole, in worlds that keep K. -/
def IdxOk (sep : ByteArray) (N : Nat) (Kx : Nat → Prop) (w : World) : Prop := ∀ (t : ByteArray) (W : World), t.size ≤ N → HoldsK Kx w W →
  Calls Tryd.prog 30 #[.string t, .string sep] W fun e w' => e = .returned (.int .i64 (Lib.index t.data.toList sep.data.toList)) ∧ W = w'
def KS (B : Nat) (Kx : Nat → Prop) : Nat → Prop := fun k => (B ≤ k ∧ k < B + 3) ∨ Kx k
theorem KS.left {B : Nat} {Kx : Nat → Prop} {A C : World} (h : HoldsK (KS B Kx) A C) {k : Nat} (h1 : B ≤ k) (h2 : k < B + 3) : C.heap[k]? = A.heap[k]? := h k (.inl ⟨h1, h2⟩)
theorem KS.right {B : Nat} {Kx : Nat → Prop} {A C : World} (h : HoldsK (KS B Kx) A C) : HoldsK Kx A C := fun k hk => h k (.inr hk)
theorem boxed_of {W W' : World} {b : Nat} {t : TypeId} {v : Value} (h : Boxed W b t v) (e : W'.heap[b]? = W.heap[b]?) : Boxed W' b t v := e.trans h
/-- The length of the string in a cell. -/
def strIn (W : World) (b : Nat) : Nat := match W.cell? ⟨b, 0, none⟩ with | some (.string t) => t.size | _ => 0
theorem strIn_of {W : World} {b : Nat} {y : TypeId} {t : ByteArray} (h : Boxed W b y (.string t)) : strIn W b = t.size := by unfold strIn; rw [h.cell]

theorem holds_set {Kx : Nat → Prop} {w W : World} {B : Nat} (h : HoldsK Kx w W) (hB : ¬ Kx B) (v : Value) : HoldsK Kx w (W.setCell ⟨B, 0, none⟩ v) := fun k hk =>
  (Below.heap_setCell _ _ _ k (fun e => hB (by rw [show B = k from e.symm]; exact hk))).trans (h k hk)
theorem boxed_far {W : World} {b B : Nat} {t : TypeId} {v : Value} (h : Boxed W b t v) (hne : b ≠ B) (u : Value) : Boxed (W.setCell ⟨B, 0, none⟩ u) b t v := h.other hne u

set_option maxHeartbeats 4000000 in
theorem split_seq (n : Nat) (S sep : ByteArray) (hsep : 1 ≤ sep.size) (hS : S.size ≤ 4611686018427387904) (hz : sep.size ≤ 4611686018427387904) (B : Nat) (Kx : Nat → Prop) (hKB : ¬ Kx B) (w : World)
    (b0 : Boxed w B 9 (.string S)) (b1 : Boxed w (B + 1) 9 (.string sep)) (b2 : Boxed w (B + 2) 3 (.int .i64 0)) (hidx : IdxOk sep S.size Kx w) :
    SeqBox n Tryd.prog 36 #[.pointer (some ⟨B + 1, 0, none⟩), .pointer (some ⟨B, 0, none⟩), .pointer (some ⟨B + 2, 0, none⟩)] (fun x : ByteArray => #[Value.string x]) B (KS B Kx) (pcs sep S) w := by
  intro l J Jx W hsz hK hJ hY h0
  have HI := Lib.hid hidx; clear hidx
  have HY := Lib.hid hY; clear hY
  have HJ := Lib.hid hJ; clear hJ
  have a0 : Boxed W B 9 (.string S) := boxed_of b0 (KS.left hK (by omega) (by omega))
  have a1 : Boxed W (B + 1) 9 (.string sep) := boxed_of b1 (KS.left hK (by omega) (by omega))
  have a2 : Boxed W (B + 2) 3 (.int .i64 0) := boxed_of b2 (KS.left hK (by omega) (by omega))
  have aK : HoldsK Kx w W := KS.right hK
  clear b0 b1 b2 hK
  have hq : ((sep.size : Int) == 0) = false := beq_eq_false_iff_ne.2 (by omega)
  have c1 := a1.cell
  refine callsIn_of_wp Tryd.func36 rfl trivial ?_ rfl
  simp only [Tryd.ntmps36, List.size_toArray, List.length_cons, List.length_nil, Nat.reduceAdd, Nat.reduceSub, Array.replicate_succ, Array.replicate_zero, List.push_toArray, List.append_toArray, List.nil_append, List.cons_append]
  gi_wp2
  gi_loopw [7, 8] (fun i f wr => ∃ (pre : List ByteArray) (t : ByteArray), Boxed wr B 9 (.string t) ∧ t.size ≤ S.size ∧ Boxed wr (B + 1) 9 (.string sep) ∧ Boxed wr (B + 2) 3 (.int .i64 0) ∧ HoldsK Kx w wr ∧ pcs sep S = pre ++ pcs sep t ∧ J pre wr) (fun i f wr => strIn wr B)
  case atStart => exact ⟨[], S, a0, Nat.le_refl _, a1, a2, aK, rfl, h0⟩
  case round =>
    obtain ⟨pre, t, x0, ht, x1, x2, xK, hx, hJw⟩ := hrel
    have hge := Lib.index_ge t.data.toList sep.data.toList
    have y0 := x0.cell; have y1 := x1.cell; have y2 := x2.cell
    have HT := Lib.hid ht
    by_cases hi : Lib.index t.data.toList sep.data.toList = -1
    · have hp := pcs_miss hi
      obtain ⟨fn, tmps, assign, body, hy, hR⟩ := HY.out pre t wr hJw ⟨[], by rw [hx, hp]⟩
      have HR := Lib.hid hR; clear hR
      have HXP := Lib.hid (show pcs sep S = pre ++ [t] by rw [hx, hp])
      have hI := Lib.hid hi
      clear hx hp hge hi ht
      gi_wp2_with (refine ⟨trivial, fun h => absurd h (by simp [Fence.wide]), ?_⟩; gi_at_call 30; refine (callsIn_wide.2 (HI.out t _ HT.out xK)).mono ?_; rw [hI.out]; rintro e w' ⟨rfl, rfl⟩)
      refine ⟨fun h => by simp [Fence.wide] at h, HR.out.mono ?_⟩
      rintro e W3 (⟨rfl, hJ3, hk3⟩ | ⟨rfl, hJx3⟩)
      · gi_wp2
        go_end0
        exact ⟨⟨_, rfl⟩, .inl (by rw [HXP.out]; exact hJ3)⟩
      · gi_wp2
        go_end0
        exact ⟨⟨_, rfl⟩, .inr ⟨pre ++ [t], ⟨[], by rw [HXP.out]; simp⟩, hJx3⟩⟩
    · obtain ⟨i, hi⟩ : ∃ i : Nat, Lib.index t.data.toList sep.data.toList = i := ⟨(Lib.index t.data.toList sep.data.toList).toNat, by omega⟩
      have hp := pcs_hit hsep hi
      have hle := index_le hi
      obtain ⟨fn, tmps, assign, body, hy, hR⟩ := HY.out pre (t.extract 0 i) wr hJw ⟨_, by rw [hx, hp]⟩
      have HR := Lib.hid hR; clear hR
      have HXP := Lib.hid (show pcs sep S = (pre ++ [t.extract 0 i]) ++ pcs sep (t.extract (i + sep.size) t.size) by rw [hx, hp]; simp)
      have hI := Lib.hid hi
      clear hx hp hge hi
      have i1 : IntKind.i64.wrap ((i : Int) + sep.size) = (i : Int) + sep.size := IntWalk.i64_in _ (by omega)
      have i2 : ((i : Int) + sep.size).toNat = i + sep.size := by omega
      have i3 : (0 : Int) ≤ (i : Int) + sep.size := by omega
      have i4 : (i : Int) + sep.size ≤ t.size := by omega
      have i5 : (i : Int) ≤ t.size := by omega
      have i6 : ((i : Int) < 0) = False := by simp
      gi_wp2_with (refine ⟨trivial, fun h => absurd h (by simp [Fence.wide]), ?_⟩; gi_at_call 30; refine (callsIn_wide.2 (HI.out t _ HT.out xK)).mono ?_; rw [hI.out]; rintro e w' ⟨rfl, rfl⟩)
      refine ⟨fun h => by simp [Fence.wide] at h, HR.out.mono ?_⟩
      rintro e W3 (⟨rfl, hJ3, hk3⟩ | ⟨rfl, hJx3⟩)
      · have z0 : Boxed W3 B 9 (.string t) := boxed_of x0 (KS.left hk3 (by omega) (by omega))
        have z1 : Boxed W3 (B + 1) 9 (.string sep) := boxed_of x1 (KS.left hk3 (by omega) (by omega))
        have z2 : Boxed W3 (B + 2) 3 (.int .i64 0) := boxed_of x2 (KS.left hk3 (by omega) (by omega))
        have zK : HoldsK Kx w W3 := xK.trans (KS.right hk3)
        have v0 := z0.cell; have v1 := z1.cell; have f0 := z0.frozen
        gi_wp2
        go_roundw
        case rel => exact ⟨pre ++ [t.extract 0 i], t.extract (i + sep.size) t.size, z0.set _, by rw [ByteArray.size_extract]; omega, boxed_far z1 (by omega) _, boxed_far z2 (by omega) _, holds_set zK hKB _, HXP.out, HJ.out _ _ _ hJ3 (grownBy_setCell' _ _ _)⟩
        case measure => rw [strIn_of (z0.set _), strIn_of x0, ByteArray.size_extract]; omega
      · gi_wp2
        refine bodyPost_ret (results_none rfl _ _ _) rfl ?_
        exact ⟨⟨_, rfl⟩, .inr ⟨pre ++ [t.extract 0 i], ⟨_, HXP.out⟩, hJx3⟩⟩
end Go.Proofs.YtdmkghgachapaaaDoor
