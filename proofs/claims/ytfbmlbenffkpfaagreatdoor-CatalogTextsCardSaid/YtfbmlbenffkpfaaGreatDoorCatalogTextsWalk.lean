/- CatalogTexts: the Go text returns true at every input, and writes nothing that was there. -/
import Derived.Test.YtfbmlbenffkpfaaGreatDoorRows
import Derived.Test.YtfbmlbenffkpfaaGreatDoorMgN
namespace Go.Proofs.YtfbmlbenffkpfaaGreatDoor.catalogTextsLaw
set_option linter.unusedVariables false
set_option maxRecDepth 100000
open Go.RowKit Go.ChangeShapes Go.WideShapes Go.Shelf

theorem names_first : namesL[0]? = some [103, 114, 101, 103, 111, 114, 105, 97, 110] := by decide +kernel
theorem text_cons {row : List UInt8} : ∃ tl, textL row = 99 :: tl := ⟨_, rfl⟩
set_option maxHeartbeats 4000000 in
theorem core (w : World) (nl : List UInt8) (m : Int) (hm : w.cell? ⟨2, 0, none⟩ = some (.int .i64 m)) (hlv : Lvl w) (hsg : Sgn w) (ht : Pow w) :
    Calls Tryz.prog 3 #[.string ⟨nl.toArray⟩] w fun e w' => e = .returned (.bool true) ∧ Below w.heap.size w w' := by
  have hgm := World.block_lt_of_cell? _ _ hm
  have CT := Lib.hid (fun (W : World) (hW : Below w.heap.size w W) => cat_Text nl W m ((hW.cell (p := ⟨2, 0, none⟩) hgm).trans hm) (hlv.below hW) (hsg.below hW) (ht.below hW))
  have CR := Lib.hid (fun (W : World) (hW : Below w.heap.size w W) => ref_Text W m ((hW.cell (p := ⟨2, 0, none⟩) hgm).trans hm) nl)
  have CN := Lib.hid (fun (W : World) (hW : Below w.heap.size w W) => ref_Names W m ((hW.cell (p := ⟨2, 0, none⟩) hgm).trans hm))
  clear hm hlv hsg ht hgm
  obtain ⟨S, X, E, hS, hX, hE⟩ : ∃ S X : List UInt8, ∃ E : Int, catText nl = .tuple #[.string ⟨S.toArray⟩, .int .i64 E] ∧ textOf nl = X ∧ ((S = X ∧ E = 0 ∧ ∃ tl, X = 99 :: tl) ∨ (S = [] ∧ X = [] ∧ E = 5)) := by
    have hr := textOf_row nl
    unfold catText
    cases h : rowOf nl with
    | none => rw [h] at hr; exact ⟨[], [], 5, rfl, hr, .inr ⟨rfl, rfl, rfl⟩⟩
    | some row => rw [h] at hr; exact ⟨textL row, textL row, 0, rfl, hr, .inl ⟨rfl, rfl, text_cons⟩⟩
  rw [hS] at CT
  rw [hX] at CR
  clear hS hX
  go_enter Tryz.func3, Tryz.ntmps3
  go_wp2_with fail
  refine (cat_Names w).mono ?_
  rintro e w1 ⟨v, rfl, hown, hb⟩
  obtain ⟨g, c, rfl, hc40, hg, hcells⟩ := own_strs hown names_len (by omega)
  have c0 := hcells 0 _ names_first
  simp only [Nat.add_zero] at c0
  have HC := Lib.hid hcells; have HB := Lib.hid hb
  clear hown hcells hb
  go_wp2_with fail
  refine (CT.out _ HB.out).mono ?_
  rintro e w2 ⟨rfl, hb2⟩
  have HB2 := Lib.hid (below_then HB.out hb2)
  have HW2 := Lib.hid hb2
  clear hb2 c0
  go_wp2_with fail
  refine (CR.out _ HB2.out).mono ?_
  rintro e w3 ⟨rfl, hb3⟩
  have HB3 := Lib.hid (below_then HB2.out hb3)
  have HW3 := Lib.hid (below_then HW2.out hb3)
  clear hb3
  go_wp2_with fail
  refine (CN.out _ HB3.out).mono ?_
  rintro e w4 ⟨v, rfl, hown, hb4⟩
  obtain ⟨g', c', rfl, hc40', hg', hcells'⟩ := own_strs hown names_len (by omega)
  have HW4 := below_then HW3.out hb4
  have CS := Lib.hid (ref_SameTexts_same w4 g g' 40 c c' namesL (by omega) names_len (Nat.lt_of_lt_of_le hg HW4.size) hg' (fun j l hj => (HW4.cell (p := ⟨g, 0 + j, none⟩) hg).trans (HC.out j l hj)) hcells')
  have HB4 := Lib.hid (below_then HB3.out hb4)
  clear hown hcells' hb4 HW4
  rcases hE with ⟨rfl, rfl, tl, rfl⟩ | ⟨rfl, rfl, rfl⟩
  all_goals
    go_wp2_with fail
    refine CS.out.mono ?_
    rintro e w5 ⟨rfl, hb5⟩
    have HB5 := Lib.hid (below_then HB4.out hb5)
    clear hb5
    go_wp2_with fail
    go_ret
    exact ⟨ret_bool (by simp), HB5.out⟩
theorem walk {H : Type} {enc : TypeId × Value → H} {v0 : Value} {d0 : DataW H} {p0 : List MemPlace} {base : Nat} (W : World)
    (o0 : Value.okWide Tryz.prog W .any base 9 v0) (h0 : DataW.Trod enc Tryz.prog W 0 (fun _ => true) true 9 v0 d0 p0)
    (hsz : ∀ bytes, d0 = .lit (.string bytes) → bytes.length ≤ reachBytes) (hL : laidMet Tryz.prog Rows.catalogTextsRow.laid W) (hsh : W.ShapedOpen Tryz.prog) :
    Calls Tryz.prog 3 #[v0] W fun e w' => e = .returned (.bool true) ∧ Below W.heap.size W w' := by
  obtain ⟨s, rfl, rfl, rfl, hs⟩ := Go.ChangeMaps.open_string Tryz.underlying9 o0 h0
  obtain ⟨m, hm⟩ : ∃ m : Int, W.cell? ⟨2, 0, none⟩ = some (.int .i64 m) := Tryz.laysLaysMn146.s1_3 W hsh
  have h := core W s.data.toList m hm (cat_lvl rfl hL.tail.tail.tail.tail.tail.tail) (cat_sgn rfl hL.tail.tail.tail.tail.tail.tail.tail) (laid_pow cat_pow hL.tail.tail)
  rw [show (⟨s.data.toList.toArray⟩ : ByteArray) = s from by simp] at h
  exact h
end Go.Proofs.YtfbmlbenffkpfaaGreatDoor.catalogTextsLaw
