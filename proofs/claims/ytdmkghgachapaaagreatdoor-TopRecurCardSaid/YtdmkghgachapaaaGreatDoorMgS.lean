/- Several texts in one: SameRec, Rtx. -/
import Derived.Test.YtdmkghgachapaaaGreatDoorCycle2
import Derived.Test.YtdmkghgachapaaaGreatDoorMgB
import Derived.Test.YtdmkghgachapaaaGreatDoorRcp8
/- The reference's SameRecur at two recurrences that read alike. -/
namespace Go.Proofs.YtdmkghgachapaaaGreatDoor
set_option linter.unusedVariables false
set_option linter.unusedSimpArgs false
set_option maxRecDepth 100000
open Go.RowKit

end Go.Proofs.YtdmkghgachapaaaGreatDoor

/- recur.Parse at texts that are read, and at others; boxes of recurrences. -/
namespace Go.Proofs.YtdmkghgachapaaaGreatDoor
set_option linter.unusedVariables false
set_option linter.unusedSimpArgs false
set_option maxRecDepth 100000
open Go.RowKit Go.Shelf

theorem At.apart8 {w : World} {b B : Nat} {o : Obj} (h : At w b o) (hne : b ≠ B) (u0 u1 u2 u3 u4 u5 u6 u7 : Value) : At ((((((((w.setCell ⟨B, 0, none⟩ u0).setCell ⟨B, 1, none⟩ u1).setCell ⟨B, 2, none⟩ u2).setCell ⟨B, 3, none⟩ u3).setCell ⟨B, 4, none⟩ u4).setCell ⟨B, 5, none⟩ u5).setCell ⟨B, 6, none⟩ u6).setCell ⟨B, 7, none⟩ u7) b o :=
  (((((((h.apart (p := ⟨B, 0, none⟩) hne u0).apart (p := ⟨B, 1, none⟩) hne u1).apart (p := ⟨B, 2, none⟩) hne u2).apart (p := ⟨B, 3, none⟩) hne u3).apart (p := ⟨B, 4, none⟩) hne u4).apart (p := ⟨B, 5, none⟩) hne u5).apart (p := ⟨B, 6, none⟩) hne u6).apart (p := ⟨B, 7, none⟩) hne u7
theorem RowC.then_ {w w' : World} {a : Option Addr} {n c : Nat} {xs : List Int} (h : RowC w a n c xs) (hb : Below w.heap.size w w') : RowC w' a n c xs := ⟨(h.1.below hb (Nat.le_refl _)).more hb.size, h.2⟩
theorem parse_good {S : List UInt8} {u ev f un cn : Int} {xs ys zs : List Int} (h0 : parseE S = 0) (hr : rawR S = (u, ev, f, un, cn, xs, ys, zs)) (w : World) (m : Int) (hm : w.cell? ⟨3, 0, none⟩ = some (.int .i64 m)) (hS : S.length ≤ 4294960000) (hp : Pow w) (hE : Errs w) (hun : UnitsAt w) :
    Calls Tryz.prog 4 #[.string ⟨S.toArray⟩] w fun e w' => Below w.heap.size w w' ∧ ∃ a1 a2 a3 n1 n2 n3 c1 c2 c3, e = .returned (.tuple #[.agg (recV u ev f cn un a1 a2 a3 n1 n2 n3 c1 c2 c3), .int .i64 0]) ∧ RowC w' a1 n1 c1 xs ∧ RowC w' a2 n2 c2 ys ∧ RowC w' a3 n3 c3 zs := by
  refine (recur_Parse S w m hm hS hp hE hun).mono ?_
  rintro e w' ⟨hb, h⟩
  rw [if_neg (by rw [h0]; simp), hr] at h
  exact ⟨hb, h⟩
theorem parse_bad {S : List UInt8} {E : Int} (h0 : parseE S = E) (hE0 : E ≠ 0) (w : World) (m : Int) (hm : w.cell? ⟨3, 0, none⟩ = some (.int .i64 m)) (hS : S.length ≤ 4294960000) (hp : Pow w) (hE : Errs w) (hun : UnitsAt w) :
    Calls Tryz.prog 4 #[.string ⟨S.toArray⟩] w fun e w' => e = .returned (.tuple #[.agg rec0V, .int .i64 E]) ∧ Below w.heap.size w w' := by
  refine (recur_Parse S w m hm hS hp hE hun).mono ?_
  rintro e w' ⟨hb, h⟩
  rw [if_pos (by rw [h0]; exact hE0), h0] at h
  exact ⟨h, hb⟩
theorem pairs_i64 : ∀ (l : List (List UInt8)) (st : Tl), I64 st.1 → I64 (pairsR st l).1
  | [], st, h => h
  | [_], st, h => h
  | k :: v :: r, st, h => by
    rw [pairsR]
    refine pairs_i64 r _ ?_
    unfold stepR
    split
    · exact atoiV_i64 v
    split
    · exact h
    split
    · exact h
    split
    · exact h
    · exact h
/-- The fields that are read are numbers of 64 bits. -/
theorem raw_i64 (S : List UInt8) : I64 (rawR S).2.1 ∧ I64 (rawR S).2.2.1 ∧ I64 (rawR S).2.2.2.1 ∧ I64 (rawR S).2.2.2.2.1 := by
  have key := pairs_i64
  exact ⟨atoiV_i64 _, atoiV_i64 _, atoiV_i64 _, key _ _ ⟨by show _ ≤ (0 : Int); decide, by show (0 : Int) ≤ _; decide⟩⟩
theorem glue_len (c : UInt8) (B : Nat) : ∀ ps : List (List UInt8), (∀ p ∈ ps, p.length ≤ B) → (glue c ps).length ≤ ps.length * (B + 1)
  | [], _ => by simp [glue]
  | p :: ps, h => by
    have h1 := glue_len c B ps fun q hq => h q (by simp [hq])
    have h2 := h p (by simp)
    rw [glue, List.length_cons, List.length_append, List.length_cons, Nat.add_mul]
    omega
theorem recS_short {u ev f cn un : Int} {ws ms ns : List Int} (he : I64 ev) (hf : I64 f) (hc : I64 cn) (hu : I64 un) (hw : ∀ x ∈ ws, I64 x) (hm : ∀ x ∈ ms, I64 x) (hn : ∀ x ∈ ns, I64 x) (l1 : ws.length ≤ 31) (l2 : ms.length ≤ 31) (l3 : ns.length ≤ 31) : (recS u ev f cn un ws ms ns).length ≤ 10000 := by
  have hU : (unitS u).length ≤ 700 := by
    unfold unitS
    rw [List.getD_eq_getElem?_getD]
    match u.toNat with
    | 0 => decide
    | 1 => decide
    | 2 => decide
    | 3 => decide
    | 4 => decide
    | k + 5 => simp
  have hi : ∀ n : Int, I64 n → (Lib.itoa n).length ≤ 700 := fun n hn => by have := itoa_len21 hn; omega
  have hl : ∀ (w : List UInt8) (l : List Int), w.length ≤ 700 → (∀ x ∈ l, I64 x) → l.length ≤ 31 → ∀ p ∈ partP w l, p.length ≤ 700 := by
    intro w l hw hx hl p hp
    unfold partP at hp
    split at hp
    · cases hp
    · simp at hp
      rcases hp with rfl | rfl
      · exact hw
      · have := numsS_len l hx; omega
  have ht : ∀ p ∈ timesP cn, p.length ≤ 700 := by
    intro p hp
    unfold timesP at hp
    split at hp
    · cases hp
    · simp at hp
      rcases hp with rfl | rfl
      · decide
      · exact hi cn hc
  have hll : ∀ (w : List UInt8) (l : List Int), (partP w l).length ≤ 2 := by intro w l; unfold partP; split <;> simp
  have htl : (timesP cn).length ≤ 2 := by unfold timesP; split <;> simp
  have hp : ∀ p ∈ recP u ev f cn un ws ms ns, p.length ≤ 700 := by
    intro p hp
    unfold recP at hp
    rcases List.mem_append.1 hp with hp | hp
    · simp only [List.mem_cons, List.not_mem_nil, or_false] at hp
      rcases hp with rfl | rfl | rfl | rfl | rfl | rfl
      · exact hi ev he
      · exact hU
      · decide
      · exact hi f hf
      · decide
      · exact hi un hu
    · rcases List.mem_append.1 hp with hp | hp
      · exact ht p hp
      rcases List.mem_append.1 hp with hp | hp
      · exact hl wWeek ws (by decide) hw l1 p hp
      rcases List.mem_append.1 hp with hp | hp
      · exact hl wMonth ms (by decide) hm l2 p hp
      · exact hl wMonths ns (by decide) hn l3 p hp
  have hc : (recP u ev f cn un ws ms ns).length ≤ 14 := by
    have a1 := hll wWeek ws; have a2 := hll wMonth ms; have a3 := hll wMonths ns
    unfold recP
    simp only [List.length_cons, List.length_append, List.length_nil]
    omega
  have h := glue_len 32 700 _ hp
  unfold recS
  rw [List.length_append]
  have h5 : wEvery.length = 5 := rfl
  omega
/-- A printed text is short. -/
theorem text_len {u ev f cn un : Int} {ws ms ns : List Int} (he : I64 ev) (hf : I64 f) (hc : I64 cn) (hu : I64 un) (hw : ∀ x ∈ ws, I64 x) (hm : ∀ x ∈ ms, I64 x) (hn : ∀ x ∈ ns, I64 x) (h0 : recurErr u ev f cn un ws ms ns = 0) : (recS u ev f cn un ws ms ns).length ≤ 4294960000 := by
  obtain ⟨l1, l2, l3⟩ := recurErr_few h0
  have := recS_short (u := u) he hf hc hu hw hm hn l1 l2 l3
  omega
end Go.Proofs.YtdmkghgachapaaaGreatDoor
