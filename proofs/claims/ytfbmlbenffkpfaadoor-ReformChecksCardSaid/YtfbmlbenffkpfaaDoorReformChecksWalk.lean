/- ReformChecks: the Go text returns true at every input, and writes nothing that was there. -/
import Derived.Test.YtfbmlbenffkpfaaDoorRows
import Derived.Test.YtfbmlbenffkpfaaDoorReformBase
import Derived.Test.YtfbmlbenffkpfaaDoorTail
namespace Go.Proofs.YtfbmlbenffkpfaaDoor.reformChecksLaw
set_option linter.unusedVariables false
set_option maxRecDepth 100000
open Go.RowKit Go.ChangeShapes Go.WideShapes Go.Shelf

def sNowhere : ByteArray := ⟨#[110, 111, 119, 104, 101, 114, 101]⟩
theorem good_err : reformErr sChange [(-4000000, sJulian), (577736, sGregorian)] = 0 := by decide +kernel
theorem bad_err : reformErr sChange [(-4000000, sJulian), (577736, sNowhere)] = 5 := by decide +kernel
set_option maxHeartbeats 4000000 in
theorem core (w : World) (mx : Int) (hmx : w.cell? ⟨0, 0, none⟩ = some (.int .i64 mx)) (nm : ByteArray) (a : Option Addr) (n c : Nat) (xs : List Prt) (hs : nm.size ≤ 9223372036854775807) (hc : n ≤ c) (h : Parts w w.heap.size a n xs) :
    Calls Tryd.prog 3 #[.agg #[.string nm, .slice a n c]] w fun e w' => e = .returned (.bool true) ∧ Below w.heap.size w w' := by
  have H := Lib.hid h; have HMX := Lib.hid hmx
  have hgm := World.block_lt_of_cell? _ _ hmx
  have HG := Lib.hid hgm
  clear h hmx hgm
  go_enter Tryd.func3, Tryd.ntmps3
  go_wp2_with fail
  have o0 := One.new w (.cells #[.string nm, .slice a n c] 24)
  generalize World.alloc w _ = W0 at o0 ⊢
  refine (law_change _).mono ?_
  rintro e w1 ⟨G, rfl, hG, hgl, hb⟩
  have O1 := Lib.hid (o0.step hb)
  have hg1 := hG.lt
  have g0 : w1.cell? ⟨G, 3, none⟩ = some (.string sGregorian) := hG.cell 3
  have z0 : w1.frozen? ⟨G, 3, none⟩ = false := hG.frozen 3
  have HGL := Lib.hid (show w.heap.size < G by have := o0.1.lt; omega)
  clear o0 hb hgl
  have HGA := Lib.hid hG; clear hG
  go_wp2_with fail
  obtain ⟨T, hT⟩ : ∃ T, T = w1.heap.size := ⟨_, rfl⟩
  have hT2 : T = (w1.setCell ⟨G, 3, none⟩ (.string sNowhere)).heap.size := by rw [hT]; simp
  have X2 := Lib.hid (show At ((w1.setCell ⟨G, 3, none⟩ (.string sNowhere)).alloc (.cells #[.string sChange, .slice (some ⟨G, 0, none⟩) 2 2] 24)) T (.cells #[.string sChange, .slice (some ⟨G, 0, none⟩) 2 2] 24) from At.newAt _ _ T hT2)
  have Y2 := Lib.hid (show At ((w1.setCell ⟨G, 3, none⟩ (.string sNowhere)).alloc (.cells #[.string sChange, .slice (some ⟨G, 0, none⟩) 2 2] 24)) G (chgO sNowhere) from by
    have := (HGA.out.store 3 (.string sNowhere)).alloc (.cells #[.string sChange, .slice (some ⟨G, 0, none⟩) 2 2] 24)
    simpa using this)
  have O2 := Lib.hid ((O1.out.set (p := ⟨G, 3, none⟩) HGL.out (.string sNowhere)).alloc (.cells #[.string sChange, .slice (some ⟨G, 0, none⟩) 2 2] 24))
  rw [← hT, show (⟨#[110, 111, 119, 104, 101, 114, 101]⟩ : ByteArray) = sNowhere from rfl]
  clear hT hT2 O1 HGA g0 z0
  generalize World.alloc _ _ = W2 at X2 Y2 O2 ⊢
  clear hg1 HGL
  refine (law_change _).mono ?_
  rintro e w3 ⟨G2, rfl, hG2, _, hb⟩
  have O3 := Lib.hid (O2.out.step hb)
  have X3 := Lib.hid (X2.out.then_ hb)
  have Y3 := Lib.hid (Y2.out.then_ hb)
  clear X2 Y2 O2 hb
  have C1 := reform_Check w3 sChange (some ⟨G2, 0, none⟩) 2 2 _ (by decide) (by omega) (parts_two hG2 (by decide))
  rw [good_err] at C1
  have CC := Lib.hid C1; clear C1
  go_wp2_with fail
  refine CC.out.mono ?_
  rintro e w4 ⟨rfl, hb⟩
  have O4 := Lib.hid (O3.out.step hb)
  have X4 := Lib.hid (X3.out.then_ hb)
  have Y4 := Lib.hid (Y3.out.then_ hb)
  clear X3 Y3 O3 hb hG2 CC
  have C1 := reform_Check w4 sChange (some ⟨G, 0, none⟩) 2 2 _ (by decide) (by omega) (parts_two Y4.out (by decide))
  rw [bad_err] at C1
  have CC := Lib.hid C1; clear C1
  have x0 : w4.cell? ⟨T, 0, none⟩ = some (.string sChange) := X4.out.cell 0
  have x1 : w4.cell? ⟨T, 1, none⟩ = some (.slice (some ⟨G, 0, none⟩) 2 2) := X4.out.cell 1
  go_wp2_with fail
  refine CC.out.mono ?_
  rintro e w5 ⟨rfl, hb⟩
  have o5 := O4.out.step hb
  clear hb CC x0 x1 X4 Y4 O4
  go_wp2_with fail
  have O5 := Lib.hid o5
  have CK := Lib.hid (fun (W : World) (hW : Below w.heap.size w W) => reform_Check W nm a n c xs hs hc ((H.out.below hW (Nat.le_refl _)).more hW.size))
  have CR := Lib.hid (fun (W : World) (hW : Below w.heap.size w W) => ref_ReformError W mx ((hW.cell (p := ⟨0, 0, none⟩) HG.out).trans HMX.out) nm a n c xs hs hc ((H.out.below hW (Nat.le_refl _)).more hW.size))
  obtain ⟨E, hE⟩ : ∃ E, E = reformErr nm xs := ⟨_, rfl⟩
  rw [← hE] at CK CR
  clear hE
  (refine region_class (One w (.cells #[.string nm, .slice a n c] 24)) (by kernel_rfl) (by kernel_rfl) (o5.drew) ?_; repeat ((first | (refine class_take ?_ (by rfl) ?_ ?_; rotate_left; focus (intro wq hq; ((have hqb : Below w.heap.size w wq := hq.2; have x0 : wq.cell? ⟨w.heap.size, 0, none⟩ = some (.string nm) := hq.1.cell 0; have x1 : wq.cell? ⟨w.heap.size, 1, none⟩ = some (.slice a n c) := hq.1.cell 1)); go_simp; first | done | with_reducible rfl | ((first | (go_at_call 5; (with_reducible refine (CK.out _ hqb).mono ?_); rintro e w' ⟨rfl, hb⟩; refine ⟨?_, hq.step hb⟩; with_reducible rfl) | (go_at_call 6; (with_reducible refine (CR.out _ hqb).mono ?_); rintro e w' ⟨rfl, hb⟩; refine ⟨?_, hq.step hb⟩; with_reducible rfl))))) | refine class_skip (by rfl) ?_); try simp only [Act.put, List.setIfInBounds_toArray, List.set_cons_zero, List.set_cons_succ]))
  refine wpQuiet_nil ?_
  intro W6 hW6
  have HB := Lib.hid hW6.2
  clear o5 hW6
  go_wp2_with fail
  go_ret
  exact ⟨ret_bool (by simp), HB.out⟩
theorem walk {H : Type} {enc : TypeId × Value → H} {v0 : Value} {d0 : DataW H} {p0 : List MemPlace} {base : Nat} (W : World)
    (o0 : Value.okWide Tryd.prog W .any base 24 v0) (h0 : DataW.Trod enc Tryd.prog W 0 (fun _ => true) true 24 v0 d0 p0)
    (hL : laidMet Tryd.prog Rows.reformChecksRow.laid W) (hsh : W.ShapedOpen Tryd.prog) :
    Calls Tryd.prog 3 #[v0] W fun e w' => e = .returned (.bool true) ∧ Below W.heap.size W w' := by
  obtain ⟨s, a, n, c, xs, rfl, hs, hc, _, h1⟩ := open_Reform o0 h0
  obtain ⟨mx, hmx⟩ : ∃ m : Int, W.cell? ⟨0, 0, none⟩ = some (.int .i64 m) := Tryd.laysLaysMn146.s1_3 W hsh
  exact core W mx hmx s a n c xs hs hc h1
end Go.Proofs.YtfbmlbenffkpfaaDoor.reformChecksLaw
