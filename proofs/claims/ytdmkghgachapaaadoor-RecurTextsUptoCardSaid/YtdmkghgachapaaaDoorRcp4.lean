/- recur: the closure that reads a number; Print. -/
import Derived.Test.YtdmkghgachapaaaDoorRcp3
import Derived.Test.YtdmkghgachapaaaDoorRecur3
namespace Go.Proofs.YtdmkghgachapaaaDoor
set_option linter.unusedVariables false
set_option linter.unusedSimpArgs false
set_option maxRecDepth 100000
open Go.RowKit Go.Shelf

theorem recur_number (s : ByteArray) (w : World) (hs : s.size ≤ 140737488355328) (he : Errs w) :
    Calls Tryd.prog 10 #[.string s] w fun e w' => e = .returned (.int .i64 (atoiV s.data.toList)) ∧ Below w.heap.size w w' := by
  have CA := Lib.hid (lib_Atoi s w hs he)
  go_enter Tryd.func10, Tryd.ntmps10
  go_wp2_with fail
  refine CA.out.mono ?_
  rintro e w1 ⟨er, _, rfl, hb⟩
  have B1 := Lib.hid hb
  clear hb
  go_wp2_with fail
  go_ret
  exact ⟨rfl, B1.out⟩
theorem recurErr_unit {u ev f cn un : Int} {ws ms ns : List Int} (h : recurErr u ev f cn un ws ms ns = 0) : 1 ≤ u ∧ u ≤ 4 ∧ 0 ≤ cn := by
  unfold recurErr at h
  split at h
  · omega
  rename_i h1
  split at h
  · omega
  rename_i h2
  omega
theorem listOut_few {lo hi : Int} {z : Bool} {l : List Int} (h : listOut lo hi z l = 0) : l.length ≤ 31 := by
  unfold listOut at h
  split at h
  · omega
  · omega
theorem recurErr_few {u ev f cn un : Int} {ws ms ns : List Int} (h : recurErr u ev f cn un ws ms ns = 0) : ws.length ≤ 31 ∧ ms.length ≤ 31 ∧ ns.length ≤ 31 := by
  unfold recurErr at h
  split at h
  · omega
  split at h
  · omega
  split at h
  · rename_i h1; exact absurd h h1
  rename_i h1
  split at h
  · rename_i h2; exact absurd h h2
  rename_i h2
  exact ⟨listOut_few (by simpa using h1), listOut_few (by simpa using h2), listOut_few h⟩
def PrintPost (u ev f cn un : Int) (ws ms ns : List Int) (w : World) (e : Ending) (w' : World) : Prop :=
  Below w.heap.size w w' ∧ if recurErr u ev f cn un ws ms ns ≠ 0 then e = .returned (.tuple #[.string ⟨#[]⟩, .int .i64 (recurErr u ev f cn un ws ms ns)]) else e = .returned (.tuple #[.string ⟨(recS u ev f cn un ws ms ns).toArray⟩, .int .i64 0])
set_option maxHeartbeats 4000000 in
theorem recur_Print (w : World) (u ev f cn un : Int) (a1 a2 a3 : Option Addr) (n1 n2 n3 c1 c2 c3 : Nat) (ws ms ns : List Int) (he : I64 ev) (hf : I64 f) (hc : I64 cn) (hu : I64 un)
    (h1 : Ints w w.heap.size a1 n1 ws) (h2 : Ints w w.heap.size a2 n2 ms) (h3 : Ints w w.heap.size a3 n3 ns) (k1 : n1 ≤ c1) (k2 : n2 ≤ c2) (k3 : n3 ≤ c3) (x1 : c1 ≤ 9223372036854775807) (x2 : c2 ≤ 9223372036854775807) (x3 : c3 ≤ 9223372036854775807)
    (hp : Pow w) (hun : UnitsAt w) :
    Calls Tryd.prog 6 #[.agg (recV u ev f cn un a1 a2 a3 n1 n2 n3 c1 c2 c3)] w (PrintPost u ev f cn un ws ms ns w) := by
  have H1 := Lib.hid h1; have H2 := Lib.hid h2; have H3 := Lib.hid h3
  have HP := Lib.hid hp; have HU := Lib.hid hun
  have HE := Lib.hid he; have HF := Lib.hid hf; have HC := Lib.hid hc; have HUN := Lib.hid hu
  clear h1 h2 h3 hp hun he hf hc hu
  go_enter Tryd.func6, Tryd.ntmps6
  go_wp2_with fail
  have t0 := At.new w (recO u ev f cn un a1 a2 a3 n1 n2 n3 c1 c2 c3)
  have b0 := below_new (Below.refl w.heap.size w) (recO u ev f cn un a1 a2 a3 n1 n2 n3 c1 c2 c3)
  generalize World.alloc w _ = W1 at t0 b0 ⊢
  refine (recur_Check W1 u ev f cn un a1 a2 a3 n1 n2 n3 c1 c2 c3 ws ms ns ((H1.out.below b0 (Nat.le_refl _)).more b0.size) ((H2.out.below b0 (Nat.le_refl _)).more b0.size) ((H3.out.below b0 (Nat.le_refl _)).more b0.size) k1 k2 k3 x1 x2 x3).mono ?_
  rintro e w2 ⟨rfl, hb⟩
  have B2 := Lib.hid (below_then b0 hb)
  have t2 := t0.then_ hb
  have z0 := t2.cell 0; have z1 := t2.cell 1; have z2 := t2.cell 2; have z3 := t2.cell 3; have z4 := t2.cell 4; have z5 := t2.cell 5; have z6 := t2.cell 6; have z7 := t2.cell 7; simp at z0 z1 z2 z3 z4 z5 z6 z7
  have hTl := t2.lt
  clear t0 b0 hb t2
  by_cases hE : recurErr u ev f cn un ws ms ns = 0
  · have hun' := recurErr_unit hE
    have hfew := recurErr_few hE
    rw [H1.out.1, H2.out.1, H3.out.1] at hfew
    have m1 : n1 ≤ 4398046511104 := by omega
    have m2 : n2 ≤ 4398046511104 := by omega
    have m3 : n3 ≤ 4398046511104 := by omega
    obtain ⟨k, rfl⟩ := Int.eq_ofNat_of_zero_le (show 0 ≤ u by omega)
    have hk : k < 5 := by omega
    have HEZ := Lib.hid hE
    rw [hE]
    clear hE hun' hfew
    go_wp2_with fail
    refine (recur_show w2 k hk ev f cn un a1 a2 a3 n1 n2 n3 c1 c2 c3 ws ms ns HE.out HF.out HC.out HUN.out ((H1.out.below B2.out (Nat.le_refl _)).more B2.out.size) ((H2.out.below B2.out (Nat.le_refl _)).more B2.out.size) ((H3.out.below B2.out (Nat.le_refl _)).more B2.out.size) m1 m2 m3 (HP.out.below B2.out) (HU.out.below B2.out)).mono ?_
    rintro e w3 ⟨rfl, hb3⟩
    have B3 := Lib.hid (below_then B2.out hb3)
    clear hb3
    go_wp2_with fail
    go_ret2
    exact ⟨B3.out, by rw [HEZ.out, if_neg (by simp)]; rfl⟩
  · have hq : (recurErr u ev f cn un ws ms ns != 0) = true := by simpa using hE
    have HQ := Lib.hid hE
    obtain ⟨E, hEe⟩ : ∃ E, E = recurErr u ev f cn un ws ms ns := ⟨_, rfl⟩
    rw [← hEe] at hq HQ ⊢
    have HEE := Lib.hid hEe
    clear hE hEe
    go_wp2_with fail
    go_ret2
    exact ⟨B2.out, by rw [← HEE.out, if_pos HQ.out]; rfl⟩
end Go.Proofs.YtdmkghgachapaaaDoor
