/- Contracts of the reference's has, of recur.Days and of the law's recurError. -/
import Derived.Test.YtdmkghgachapaaaGreatDoorMgE
import Derived.Test.YtdmkghgachapaaaGreatDoorRecur3
namespace Go.Proofs.YtdmkghgachapaaaGreatDoor
set_option linter.unusedVariables false
set_option maxRecDepth 100000
open Go.RowKit greg

/-- What a valid recurrence is. -/
structure RecOk (u ev f cn un : Int) (ws ms ns : List Int) : Prop where
  u1 : 1 ≤ u
  u2 : u ≤ 4
  e1 : 1 ≤ ev
  e2 : ev ≤ 1000
  f1 : -4000000 ≤ f
  f2 : f ≤ 4000000
  g1 : -4000000 ≤ un
  g2 : un ≤ 4000000
  fu : f ≤ un
  k1 : 0 ≤ cn
  k2 : cn ≤ 1000
  l1 : ws.length ≤ 31
  l2 : ms.length ≤ 31
  l3 : ns.length ≤ 31
theorem listOut_len {lo hi : Int} {z : Bool} {l : List Int} (h : listOut lo hi z l = 0) : l.length ≤ 31 := by
  unfold listOut at h
  split at h
  · omega
  · omega
theorem recOk_of {u ev f cn un : Int} {ws ms ns : List Int} (h : recurErr u ev f cn un ws ms ns = 0) : RecOk u ev f cn un ws ms ns := by
  unfold recurErr at h
  split at h
  · omega
  · split at h
    · omega
    · split at h
      · rename_i q; exact absurd h q
      · split at h
        · rename_i q; exact absurd h q
        · rename_i q1 q2 q3 q4
          have e1 := listOut_len (Decidable.not_not.1 q3)
          have e2 := listOut_len (Decidable.not_not.1 q4)
          have e3 := listOut_len h
          constructor <;> omega
def daysErr (u ev f cn un : Int) (ws ms ns : List Int) (a b : Int) : Int := if recurErr u ev f cn un ws ms ns ≠ 0 then recurErr u ev f cn un ws ms ns else rangeErr f a b
theorem rangeErr_zero {f a b : Int} (h : rangeErr f a b = 0) : -4000000 ≤ a ∧ a ≤ 4000000 ∧ -4000000 ≤ b ∧ b ≤ 4000000 ∧ a ≤ b ∧ b ≤ f + 40000 ∧ b - a ≤ 3000 := by
  unfold rangeErr at h
  split at h
  · omega
  · rename_i q
    split at h
    · omega
    · split at h
      · omega
      · rcases inB_cases (-4000000) 4000000 a with ⟨_, h1, h2⟩ | ⟨ha, _⟩
        · rcases inB_cases (-4000000) 4000000 b with ⟨_, h3, h4⟩ | ⟨hb, _⟩
          · omega
          · exact absurd (.inr hb) q
        · exact absurd (.inl ha) q
def DaysOut (u ev f cn un : Int) (ws ms ns : List Int) (a b : Int) (w : World) (e : Ending) (w' : World) : Prop :=
  (daysErr u ev f cn un ws ms ns a b ≠ 0 ∧ e = .returned (.tuple #[.slice none 0 0, .int .i64 (daysErr u ev f cn un ws ms ns a b)]) ∧ Below w.heap.size w w') ∨
  (daysErr u ev f cn un ws ms ns a b = 0 ∧ ∃ p n c, e = .returned (.tuple #[.slice p n c, .int .i64 0]) ∧ n ≤ c ∧ c ≤ 9223372036854775807 ∧ Ints w' w'.heap.size p n (daysL u ev f cn un ws ms ns a b) ∧ Below w.heap.size w w')
set_option maxHeartbeats 4000000 in
theorem recur_Days (w : World) (u ev f cn un : Int) (a1 a2 a3 : Option Addr) (n1 n2 n3 c1 c2 c3 : Nat) (ws ms ns : List Int)
    (h1 : Ints w w.heap.size a1 n1 ws) (h2 : Ints w w.heap.size a2 n2 ms) (h3 : Ints w w.heap.size a3 n3 ns) (k1 : n1 ≤ c1) (k2 : n2 ≤ c2) (k3 : n3 ≤ c3) (m1 : c1 ≤ 9223372036854775807) (m2 : c2 ≤ 9223372036854775807) (m3 : c3 ≤ 9223372036854775807) (a b : Int) :
    Calls Tryz.prog 9 #[.agg #[.int .i64 u, .int .i64 ev, .int .i64 f, .int .i64 cn, .int .i64 un, .slice a1 n1 c1, .slice a2 n2 c2, .slice a3 n3 c3], .int .i64 a, .int .i64 b] w (DaysOut u ev f cn un ws ms ns a b w) := by
  have H1 := Lib.hid h1; have H2 := Lib.hid h2; have H3 := Lib.hid h3; clear h1 h2 h3
  go_enter Tryz.func9, Tryz.ntmps9
  go_wp2_with fail
  have t0 := At.new w (.cells #[.int .i64 u, .int .i64 ev, .int .i64 f, .int .i64 cn, .int .i64 un, .slice a1 n1 c1, .slice a2 n2 c2, .slice a3 n3 c3] 24)
  have b0 := below_new (Below.refl w.heap.size w) (.cells #[.int .i64 u, .int .i64 ev, .int .i64 f, .int .i64 cn, .int .i64 un, .slice a1 n1 c1, .slice a2 n2 c2, .slice a3 n3 c3] 24)
  generalize World.alloc w _ = W0 at t0 b0 ⊢
  have K := Lib.hid (show ∀ W, Below W0.heap.size W0 W → At W w.heap.size (.cells #[.int .i64 u, .int .i64 ev, .int .i64 f, .int .i64 cn, .int .i64 un, .slice a1 n1 c1, .slice a2 n2 c2, .slice a3 n3 c3] 24) from fun W h => t0.then_ h)
  have s0_0 : W0.cell? ⟨w.heap.size, 0, none⟩ = some (.int .i64 u) := t0.cell 0; have s0_1 : W0.cell? ⟨w.heap.size, 1, none⟩ = some (.int .i64 ev) := t0.cell 1; have s0_2 : W0.cell? ⟨w.heap.size, 2, none⟩ = some (.int .i64 f) := t0.cell 2; have s0_3 : W0.cell? ⟨w.heap.size, 3, none⟩ = some (.int .i64 cn) := t0.cell 3; have s0_4 : W0.cell? ⟨w.heap.size, 4, none⟩ = some (.int .i64 un) := t0.cell 4; have s0_5 : W0.cell? ⟨w.heap.size, 5, none⟩ = some (.slice a1 n1 c1) := t0.cell 5; have s0_6 : W0.cell? ⟨w.heap.size, 6, none⟩ = some (.slice a2 n2 c2) := t0.cell 6; have s0_7 : W0.cell? ⟨w.heap.size, 7, none⟩ = some (.slice a3 n3 c3) := t0.cell 7
  refine (recur_Check _ _ _ _ _ _ _ _ _ _ _ _ _ _ _ ws ms ns (H1.out.far b0 (Below.refl _ _)) (H2.out.far b0 (Below.refl _ _)) (H3.out.far b0 (Below.refl _ _)) k1 k2 k3 m1 m2 m3).mono ?_
  obtain ⟨E, hE⟩ : ∃ E, E = recurErr u ev f cn un ws ms ns := ⟨_, rfl⟩
  rw [← hE]
  rintro e w1 ⟨rfl, hb1⟩
  have B0 := Lib.hid b0
  have HE := Lib.hid hE
  by_cases hz : E = 0
  · subst hz
    have ok := recOk_of HE.out.symm
    obtain ⟨o1, o2, o3, o4, o5, o6, o7, o8, o9, o10, o11, o12, o13, o14⟩ := ok
    have b1 := below_then b0 hb1
    clear hE s0_0 s0_1 s0_2 s0_3 s0_4 s0_5 s0_6 s0_7
    have t1 := K.out _ hb1
    have s1_0 : w1.cell? ⟨w.heap.size, 0, none⟩ = some (.int .i64 u) := t1.cell 0; have s1_1 : w1.cell? ⟨w.heap.size, 1, none⟩ = some (.int .i64 ev) := t1.cell 1; have s1_2 : w1.cell? ⟨w.heap.size, 2, none⟩ = some (.int .i64 f) := t1.cell 2; have s1_3 : w1.cell? ⟨w.heap.size, 3, none⟩ = some (.int .i64 cn) := t1.cell 3; have s1_4 : w1.cell? ⟨w.heap.size, 4, none⟩ = some (.int .i64 un) := t1.cell 4; have s1_5 : w1.cell? ⟨w.heap.size, 5, none⟩ = some (.slice a1 n1 c1) := t1.cell 5; have s1_6 : w1.cell? ⟨w.heap.size, 6, none⟩ = some (.slice a2 n2 c2) := t1.cell 6; have s1_7 : w1.cell? ⟨w.heap.size, 7, none⟩ = some (.slice a3 n3 c3) := t1.cell 7
    go_wp2_with fail
    refine (recur_checkRange w1 u ev f cn un a1 a2 a3 n1 n2 n3 c1 c2 c3 a b o5 o6).mono ?_
    obtain ⟨F, hF⟩ : ∃ F, F = rangeErr f a b := ⟨_, rfl⟩
    rw [← hF]
    rintro e w2 ⟨rfl, hb2⟩
    have HF := Lib.hid hF
    have hde := Lib.hid (show daysErr u ev f cn un ws ms ns a b = F by rw [daysErr, ← HE.out, HF.out]; simp)
    by_cases hf : F = 0
    · subst hf
      obtain ⟨r1, r2, r3, r4, r5, r6, r7⟩ := rangeErr_zero HF.out.symm
      have l1 := H1.out.1; have l2 := H2.out.1; have l3 := H3.out.1
      clear hF s1_0 s1_1 s1_2 s1_3 s1_4 s1_5 s1_6 s1_7
      have b2 := below_then b1 hb2
      have t2 := K.out _ (hb1.trans (hb2.mono hb1.size))
      have s2_0 : w2.cell? ⟨w.heap.size, 0, none⟩ = some (.int .i64 u) := t2.cell 0; have s2_1 : w2.cell? ⟨w.heap.size, 1, none⟩ = some (.int .i64 ev) := t2.cell 1; have s2_2 : w2.cell? ⟨w.heap.size, 2, none⟩ = some (.int .i64 f) := t2.cell 2; have s2_3 : w2.cell? ⟨w.heap.size, 3, none⟩ = some (.int .i64 cn) := t2.cell 3; have s2_4 : w2.cell? ⟨w.heap.size, 4, none⟩ = some (.int .i64 un) := t2.cell 4; have s2_5 : w2.cell? ⟨w.heap.size, 5, none⟩ = some (.slice a1 n1 c1) := t2.cell 5; have s2_6 : w2.cell? ⟨w.heap.size, 6, none⟩ = some (.slice a2 n2 c2) := t2.cell 6; have s2_7 : w2.cell? ⟨w.heap.size, 7, none⟩ = some (.slice a3 n3 c3) := t2.cell 7
      go_wp2_with fail
      refine (recur_days w2 u ev f cn un a1 a2 a3 n1 n2 n3 c1 c2 c3 ws ms ns (H1.out.far b2 (Below.refl _ _)) (H2.out.far b2 (Below.refl _ _)) (H3.out.far b2 (Below.refl _ _)) (by omega) (by omega) (by omega) o3 o4 o5 o6 o7 o8 o10 o11 a b r1 r2 r3 r4).mono ?_
      rintro e w3 ⟨p, n, c, rfl, hn, hc, hI, hb3⟩
      have HI := Lib.hid hI
      clear hI s2_0 s2_1 s2_2 s2_3 s2_4 s2_5 s2_6 s2_7
      go_wp2_with fail
      go_ret2
      exact .inr ⟨hde.out, p, n, c, rfl, hn, hc, HI.out, below_then b2 hb3⟩
    · have hf' : (F == 0) = false := by simpa using hf
      have HFN := Lib.hid hf
      have b2 := below_then b1 hb2
      clear hF hf s1_0 s1_1 s1_2 s1_3 s1_4 s1_5 s1_6 s1_7
      go_wp2_with fail
      go_ret2
      exact .inl ⟨by rw [hde.out]; exact HFN.out, by rw [hde.out]; rfl, b2⟩
  · have hz' : (E == 0) = false := by simpa using hz
    have HEN := Lib.hid hz
    have hde := Lib.hid (show daysErr u ev f cn un ws ms ns a b = E by rw [daysErr, ← HE.out, if_pos HEN.out])
    have b1 := below_then b0 hb1
    clear hE hz s0_0 s0_1 s0_2 s0_3 s0_4 s0_5 s0_6 s0_7
    go_wp2_with fail
    go_ret2
    exact .inl ⟨by rw [hde.out]; exact HEN.out, by rw [hde.out]; rfl, b1⟩
end Go.Proofs.YtdmkghgachapaaaGreatDoor
