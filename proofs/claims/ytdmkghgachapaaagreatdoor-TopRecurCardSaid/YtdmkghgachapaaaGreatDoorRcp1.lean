/- Contract of recur.join: a list of numbers as a text. -/
import Derived.Test.YtdmkghgachapaaaGreatDoorRcp0
import Derived.Test.YtdmkghgachapaaaGreatDoorStrs
import Derived.Test.YtdmkghgachapaaaGreatDoorMgK
import Derived.Test.YtdmkghgachapaaaGreatDoorMgA
import Derived.Test.YtdmkghgachapaaaGreatDoorLayX
import Derived.Laws.Concat
import Derived.Laws.IdiomStrings
namespace Go.Proofs.YtdmkghgachapaaaGreatDoor
set_option linter.unusedVariables false
set_option linter.unusedSimpArgs false
set_option maxRecDepth 100000
open Go.RowKit Go.Shelf

theorem addL (a b c : List UInt8) (hc : a ++ b = c) (h : c.length ≤ 9223372036854775807) : ∀ W, (Op.stringOp .add ⟨a.toArray⟩ ⟨b.toArray⟩).run Tryz.prog W = .ok (.string ⟨c.toArray⟩) W := fun W => by
  have e : (⟨a.toArray⟩ : ByteArray) ++ ⟨b.toArray⟩ = ⟨c.toArray⟩ := by rw [← hc]; exact ByteArray.mk_append_mk a b
  rw [← e]
  refine run_string_add_sum W _ _ ?_
  have h1 : (⟨a.toArray⟩ : ByteArray).size = a.length := by show a.toArray.size = _; simp
  have h2 : (⟨b.toArray⟩ : ByteArray).size = b.length := by show b.toArray.size = _; simp
  rw [h1, h2]
  have := congrArg List.length hc
  simp at this
  omega
theorem extraJR : Builder.Extra Tryz.prog Tryz.laysn156_ren where
  sizeBuilder := by kernel_rfl
  liesBuilder := by kernel_rfl
  t5 := Tryz.underlying5
  a5 := Tryz.isAgg5
  z5 := Tryz.sizeOf5
  v5 := Tryz.zeroValue5
  infoByte := by kernel_rfl
  cellsByte := by kernel_rfl
  sizeByte := by kernel_rfl
  neB5 := by decide
theorem itoa_len21 {n : Int} (h : I64 n) : (Lib.itoa n).length ≤ 21 := Lib.itoa_length_le n h.1 h.2
theorem numsS_len (l : List Int) (h : ∀ x ∈ l, I64 x) : (numsS l).length ≤ 22 * l.length := by
  cases l with
  | nil => simp [numsS, Lib.join, List.intercalate]
  | cons a r =>
    unfold numsS
    rw [List.map_cons, join_glue]
    have key : ∀ r : List Int, (∀ x ∈ r, I64 x) → (glue 44 (r.map Lib.itoa)).length ≤ 22 * r.length := by
      intro r
      induction r with
      | nil => intro _; simp [glue]
      | cons x r ih =>
        intro hr
        rw [List.map_cons, glue]
        have h1 := itoa_len21 (hr x (by simp))
        have h2 := ih (fun y hy => hr y (by simp [hy]))
        simp only [List.length_cons, List.length_append]
        omega
    have h1 := itoa_len21 (h a (by simp))
    have h2 := key r (fun x hx => h x (by simp [hx]))
    simp only [List.length_cons, List.length_append]
    omega
set_option maxHeartbeats 4000000 in
theorem recur_join (w : World) (a : Option Addr) (n c : Nat) (l : List Int) (h : Ints w w.heap.size a n l) (hn0 : 0 < n) (hn : n ≤ 4398046511104) (hp : Pow w) :
    Calls Tryz.prog 29 #[.slice a n c] w fun e w' => e = .returned (.string ⟨(numsS l).toArray⟩) ∧ Below w.heap.size w w' := by
  obtain ⟨i0, hi, hz0, hz1, hz2⟩ := info_parts infoStr
  have l1 := h.1
  have HI64 := Lib.hid h.2.2.1
  have H := Lib.hid h; have L1 := Lib.hid l1
  have HP := Lib.hid hp
  clear h l1 hp
  go_enter Tryz.func29, Tryz.ntmps29
  go_wp2_with fail
  go_loopw [3, 5, 8] (fun o _ i wr => ∃ j : Nat, j ≤ n ∧ i = .int .i64 j ∧ wr.ownsRow w.heap.size 9 1 o j (((l.take j).map Lib.itoa).map strV) ∧ Below w.heap.size w wr) (fun o _ i _ => n - (intOf i).toNat)
  case atStart => exact ⟨0, by omega, rfl, World.ownsRow_nil _ _ _ _, Below.refl _ _⟩
  case round =>
    obtain ⟨j, hj, rfl, hown, hbel⟩ := hrel
    by_cases hlt : j < n
    · obtain ⟨e1, o1, x, rfl, hb1, hc1, hx, x1, x2⟩ := (H.out.below hbel (Nat.le_refl _)).at_ hlt
      have HX := Lib.hid hx
      have hz := hbel.size
      have OWN := Lib.hid hown; have BEL := Lib.hid hbel
      clear hx hown hbel
      go_wp2_with fail
      refine (lib_Itoa x _ x1 x2 (HP.out.below BEL.out)).mono ?_
      obtain ⟨M, hM⟩ : ∃ M, M = Lib.itoa x := ⟨_, rfl⟩
      have hMe : itoaS x = ⟨M.toArray⟩ := by rw [hM]; rfl
      rw [hMe]
      have HM := Lib.hid hM
      clear hM hMe
      rintro e w3 ⟨rfl, hb⟩
      have OWN3 := Lib.hid (own_thenS OWN.out hb)
      have B3 := Lib.hid (below_then BEL.out hb)
      have hz3 := B3.out.size
      clear hb OWN BEL hc1 hz
      go_wp2_with (at_builtin; refine wpList_append_own _ rfl _ _ 37 rfl (w.heap.size) 9 i0 (.string ⟨#[]⟩) 1 16 Tryz.underlying37 hi hz0 hz1 hz2 rfl (by decide) _ _ _ rfl (OWN3.out.alloc _) ⟨w3.heap.size, 0, none⟩ 1 1 [.string ⟨M.toArray⟩] rfl rfl (World.news_of_block (cs := #[.string ⟨M.toArray⟩]) (t := 9) (fr := (0, 0)) (heap_alloc_new w3 _)) (by simp [Value.oneCell']) (by unfold maxLen; omega) (by omega) (by first | omega | (simp; omega)) ?_; intro v' w4 hown' hgrow _)
      have bw := (below_new B3.out (.cells #[.string ⟨M.toArray⟩] 9)).grown hgrow (by simp; omega) (fun bb hbb => own_base OWN3.out hbb)
      have OWN4 := Lib.hid hown'
      clear hown' hgrow OWN3
      go_wp2_with fail
      go_roundw
      case rel =>
        refine ⟨j + 1, by omega, by go_num, ?_, bw⟩
        have e : (l.take (j + 1)) = l.take j ++ [x] := by
          rw [List.take_add_one, HX.out]; rfl
        rw [e, List.map_append, List.map_append]
        have := OWN4.out
        rw [HM.out] at this
        exact this
      case measure => simp [intOf]; omega
    · obtain rfl : j = n := by omega
      have htk : l.take j = l := List.take_of_length_le (by rw [L1.out]; omega)
      rw [htk] at hown
      have HB := Lib.hid hbel
      have hln : (numsS l).length ≤ 22 * j := by rw [← L1.out]; exact numsS_len l HI64.out
      have hll : (l.map Lib.itoa).length = j := by rw [List.length_map]; exact L1.out
      obtain ⟨g, cp, rfl, hcp, hg, hcells⟩ := own_strs hown hll (by omega)
      have CJ := Lib.hid (show Calls Tryz.prog 55 #[.slice (some ⟨g, 0, none⟩) j cp, .string ⟨#[44]⟩] wr (fun e w' => e = .returned (.string ⟨(numsS l).toArray⟩) ∧ Below wr.heap.size wr w') from by
        have e : ((l.map Lib.itoa).map fun l => (⟨l.toArray⟩ : ByteArray)).map (·.data.toList) = l.map Lib.itoa := by rw [List.map_map]; simp [Function.comp_def]
        have h0 := Any.strings_Join Tryz.laysn156 extraJR g 0 cp ((l.map Lib.itoa).map fun l => (⟨l.toArray⟩ : ByteArray)) ⟨#[44]⟩ wr (fun i x hx => by
          rw [List.getElem?_map, Option.map_eq_some_iff] at hx
          obtain ⟨l, hl, rfl⟩ := hx
          exact hcells i l hl) hg (by rw [List.length_map, hll]; omega) (by rw [List.length_map, hll]; exact hcp) (by
          rw [e]; show (numsS l).length ≤ _; omega)
        rw [e, List.length_map, hll] at h0
        exact h0)
      clear hown hcells hbel hll htk hln
      go_wp2_with fail
      refine CJ.out.mono ?_
      rintro e W5 ⟨rfl, hb⟩
      have O5 := Lib.hid (below_then HB.out hb); clear hb
      go_wp2_with fail
      go_ret
      exact ⟨rfl, O5.out⟩
end Go.Proofs.YtdmkghgachapaaaGreatDoor
