import Derived.Test.YtdmkghgachapaabGreatDoorRows
import Derived.Test.YtdmkghgachapaabGreatDoorFct1
import Derived.Test.YtdmkghgachapaabGreatDoorFct2
import Derived.Test.YtdmkghgachapaabGreatDoorMgA
import Derived.Deep.Cut
namespace Go.Proofs.YtdmkghgachapaabGreatDoor.factsChecksLaw
set_option linter.unusedVariables false
set_option linter.unusedSimpArgs false
set_option maxRecDepth 100000
open Go.RowKit Go.ChangeShapes Go.WideShapes Go.Shelf
def jul : ByteArray := ⟨#[106, 117, 108, 105, 97, 110]⟩
theorem lit7 : planE [jul, jul] [] [] = 7 := by decide +kernel
theorem jul_strs {w : World} {g : Nat} (h : At w g (.cells #[.string jul, .string jul] 9)) : Strs w w.heap.size (some ⟨g, 0, none⟩) 2 [jul, jul] := by
  refine ⟨rfl, by omega, by simp [jul]; decide, fun _ => ⟨g, 0, rfl, h.lt, fun i hi => ?_⟩⟩
  rw [At.cell h]
  match i, hi with
  | 0, _ => rfl
  | 1, _ => rfl
theorem nil_strs (w : World) (B : Nat) : Strs w B none 0 [] := ⟨rfl, by omega, by simp, fun h => absurd h (by omega)⟩
theorem nil_feasts (w : World) (B : Nat) : Feasts w B none 0 [] := ⟨rfl, by omega, fun h => absurd h (by omega)⟩
set_option maxHeartbeats 4000000 in
theorem core (w : World) (m : Int) (hm : w.cell? ⟨0, 0, none⟩ = some (.int .i64 m)) (hlv : Lvl w) (hsg : Sgn w) (a1 a2 a3 : Option Addr) (n1 n2 n3 c1 c2 c3 : Nat) (cs ts : List ByteArray) (fs : List Fst)
    (k1 : n1 ≤ c1) (m1 : c1 ≤ 9223372036854775807) (h1 : Strs w w.heap.size a1 n1 cs) (k2 : n2 ≤ c2) (m2 : c2 ≤ 9223372036854775807) (h2 : Strs w w.heap.size a2 n2 ts) (k3 : n3 ≤ c3) (m3 : c3 ≤ 9223372036854775807) (h3 : Feasts w w.heap.size a3 n3 fs) :
    Calls Tryz.prog 3 #[.agg #[.slice a1 n1 c1, .slice a2 n2 c2, .slice a3 n3 c3]] w fun e w' => e = .returned (.bool true) ∧ Below w.heap.size w w' := by
  have hgm := World.block_lt_of_cell? _ _ hm
  have CC := Lib.hid (fun (W : World) (hW : Below w.heap.size w W) => facts_Check W m ((hW.cell (p := ⟨0, 0, none⟩) hgm).trans hm) (hlv.below hW) (hsg.below hW))
  have CP := Lib.hid (fun (W : World) (hW : Below w.heap.size w W) => law_planError W m ((hW.cell (p := ⟨0, 0, none⟩) hgm).trans hm) (hlv.below hW) (hsg.below hW) a1 a2 a3 n1 n2 n3 c1 c2 c3 cs ts fs k1 m1 (h1.then_ hW) k2 m2 (h2.then_ hW) k3 m3 (h3.then_ hW))
  have CK := Lib.hid (fun (W : World) (hW : Below w.heap.size w W) (RB : Nat) (hR : At W RB regZ) => CC.out W hW RB hR a1 a2 a3 n1 n2 n3 c1 c2 c3 cs ts fs k1 m1 (h1.then_ hW) k2 m2 (h2.then_ hW) k3 m3 (h3.then_ hW))
  obtain ⟨PE, hPE⟩ : ∃ E, E = planE cs ts fs := ⟨_, rfl⟩
  rw [← hPE] at CP CK
  clear hPE h1 h2 h3 k1 k2 k3 m1 m2 m3 hm hlv hsg
  go_enter Tryz.func3, Tryz.ntmps3
  go_upto_region 1 with fail
  have t0 := At.new w (.cells #[.slice a1 n1 c1, .slice a2 n2 c2, .slice a3 n3 c3] 25)
  have b0 := below_new (Below.refl w.heap.size w) (.cells #[.slice a1 n1 c1, .slice a2 n2 c2, .slice a3 n3 c3] 25)
  generalize World.alloc w _ = W1 at t0 b0 ⊢
  have BX := Lib.hid t0; have BW := Lib.hid b0
  clear t0 b0
  go_wp2_with fail
  refine (conv_New _).mono ?_
  rintro e W2 ⟨rfl, hw2⟩
  have r2 := At.new W1 regZ
  have b2 := below_new (Below.refl W1.heap.size W1) regZ
  obtain ⟨RB, hRB⟩ : ∃ R, R = W1.heap.size := ⟨_, rfl⟩
  rw [← hw2, ← hRB] at r2
  rw [← hw2] at b2
  rw [← hRB]
  clear hw2 hRB
  have BX2 := Lib.hid (BX.out.then_ b2)
  have BW2 := Lib.hid (below_then BW.out b2)
  have R2 := Lib.hid r2
  clear r2 b2
  go_wp2_with fail
  have j3 := At.new W2 (.cells #[.string jul, .string jul] 9)
  have b3 := below_new (Below.refl W2.heap.size W2) (.cells #[.string jul, .string jul] 9)
  unfold jul at j3 b3
  obtain ⟨J3, hJ3⟩ : ∃ J, J = W2.heap.size := ⟨_, rfl⟩
  rw [← hJ3] at j3 ⊢
  clear hJ3
  generalize World.alloc W2 _ = W3 at j3 b3 ⊢
  have BX3 := Lib.hid (BX2.out.then_ b3)
  have BW3 := Lib.hid (below_then BW2.out b3)
  have CL := Lib.hid (CC.out W3 BW3.out RB (R2.out.then_ b3) (some ⟨J3, 0, none⟩) none none 2 0 0 2 0 0 [jul, jul] [] [] (by omega) (by omega) (jul_strs j3) (by omega) (by omega) (nil_strs _ _) (by omega) (by omega) (nil_feasts _ _))
  rw [lit7] at CL
  clear j3 b3 BX2 BW2 R2 BX BW
  refine CL.out.mono ?_
  rintro e W4 ⟨rfl, hb⟩
  have BX4 := Lib.hid (BX3.out.then_ hb)
  have BW4 := Lib.hid (below_then BW3.out hb)
  clear hb CL BX3 BW3
  go_upto_region 3 with fail
  refine wp_region_held_drew (S := (fun w' => At w' w.heap.size (.cells #[.slice a1 n1 c1, .slice a2 n2 c2, .slice a3 n3 c3] 25))) (by kernel_rfl) ?_ (fun hHeld => ?_)
  · (try dsimp only); exact BX4.out.drew
  have BV := Lib.hid BW4.out.drew
  generalize World.drew W4 = V0 at BV hHeld ⊢
  refine lex_take (i := 1) (v := ?_) rfl (by kernel_rfl) (by kernel_rfl) (by kernel_rfl) (fun _ _ _ h => h) (by rfl) ?_ (by assumption) ?_
  rotate_left
  · (intro w hSw; (try dsimp only at hSw); have xb := (show At _ _ _ from hSw); have x0 := xb.cell 0; have x1 := xb.cell 1; have x2 := xb.cell 2; simp at x0 x1 x2; go_simp; try with_reducible rfl)
  try simp only [Act.put, List.setIfInBounds_toArray, List.set_cons_zero, List.set_cons_succ]
  refine lex_take (i := 3) (v := ?_) rfl (by kernel_rfl) (by kernel_rfl) (by kernel_rfl) (fun _ _ _ h => h) (by rfl) ?_ (by assumption) ?_
  rotate_left
  · (intro w hSw; (try dsimp only at hSw); have xb := (show At _ _ _ from hSw); have x0 := xb.cell 0; have x1 := xb.cell 1; have x2 := xb.cell 2; simp at x0 x1 x2; go_simp; try with_reducible rfl)
  try simp only [Act.put, List.setIfInBounds_toArray, List.set_cons_zero, List.set_cons_succ]
  refine lex_step (i := 0) rfl (by kernel_rfl) (by rfl) (fun Kx hKx => ?_)
  (go_simp; go_at_call 6; refine (conv_New _).mono ?_; rintro e V1 ⟨rfl, rfl⟩; try go_wp2_with fail)
  refine hKx.out _ _ ?_ (fun hHeld => ?_)
  · (try dsimp only); exact At.alloc (by assumption) _
  clear hKx Kx
  try simp only [Act.put, List.setIfInBounds_toArray, List.set_cons_zero, List.set_cons_succ]
  have r5 := At.new V0 regZ
  have b5 := below_new (Below.refl V0.heap.size V0) regZ
  obtain ⟨RB5, hRB5⟩ : ∃ R, R = V0.heap.size := ⟨_, rfl⟩
  rw [← hRB5] at r5 ⊢
  clear hRB5
  generalize World.alloc V0 regZ = V1 at r5 b5 hHeld ⊢
  have BV1 := Lib.hid (below_then BV.out b5)
  have R5 := Lib.hid r5
  clear r5 b5
  refine lex_step (i := 2) rfl (by kernel_rfl) (by rfl) (fun Kx hKx => ?_)
  (go_simp; go_at_call 5; (with_reducible refine (CK.out _ BV1.out RB5 R5.out).mono ?_); rintro e V2 ⟨rfl, hb⟩; try go_wp2_with fail)
  refine hKx.out _ _ ?_ (fun hHeld => ?_)
  · (try dsimp only); exact At.then_ (by assumption) hb
  clear hKx Kx
  try simp only [Act.put, List.setIfInBounds_toArray, List.set_cons_zero, List.set_cons_succ]
  have BV2 := Lib.hid (below_then BV1.out hb)
  clear hb
  refine lex_step (i := 4) rfl (by kernel_rfl) (by rfl) (fun Kx hKx => ?_)
  (go_simp; go_at_call 7; (with_reducible refine (CP.out _ BV2.out).mono ?_); rintro e V3 ⟨rfl, hb⟩; try go_wp2_with fail)
  refine hKx.out _ _ ?_ (fun hHeld => ?_)
  · (try dsimp only); exact At.then_ (by assumption) hb
  clear hKx Kx
  try simp only [Act.put, List.setIfInBounds_toArray, List.set_cons_zero, List.set_cons_succ]
  have BF := Lib.hid (below_then BV2.out hb)
  clear hb
  refine lex_take (i := 5) (v := ?_) rfl (by kernel_rfl) (by kernel_rfl) (by kernel_rfl) (fun _ _ _ h => h) (by rfl) ?_ (by assumption) ?_
  rotate_left
  · (intro w hSw; (try dsimp only at hSw); go_simp; try with_reducible rfl)
  try simp only [Act.put, List.setIfInBounds_toArray, List.set_cons_zero, List.set_cons_succ]
  refine lex_take (i := 6) (v := ?_) rfl (by kernel_rfl) (by kernel_rfl) (by kernel_rfl) (fun _ _ _ h => h) (by rfl) ?_ (by assumption) ?_
  rotate_left
  · (intro w hSw; (try dsimp only at hSw); go_simp; try with_reducible rfl)
  try simp only [Act.put, List.setIfInBounds_toArray, List.set_cons_zero, List.set_cons_succ]
  refine wpAnyH_done (by kernel_rfl) ?_ _
  go_wp2_with fail
  go_ret
  exact ⟨by simp, BF.out⟩
theorem walk {H : Type} {enc : TypeId × Value → H} {v0 : Value} {d0 : DataW H} {p0 : List MemPlace} {base : Nat} (W : World)
    (o0 : Value.okWide Tryz.prog W .any base 25 v0) (h0 : DataW.Trod enc Tryz.prog W 0 (fun _ => true) true 25 v0 d0 p0)
    (hL : laidMet Tryz.prog Rows.factsChecksRow.laid W) (hsh : W.ShapedOpen Tryz.prog) :
    Calls Tryz.prog 3 #[v0] W fun e w' => e = .returned (.bool true) ∧ Below W.heap.size W w' := by
  obtain ⟨a1, n1, c1, cs, a2, n2, c2, ts, a3, n3, c3, fs, rfl, k1, m1, h1, k2, m2, h2, k3, m3, h3⟩ := open_Plan o0 h0
  obtain ⟨m, hm⟩ : ∃ m : Int, W.cell? ⟨0, 0, none⟩ = some (.int .i64 m) := Tryz.laysLaysMn146.s1_3 W hsh
  exact core W m hm (cat_lvl rfl hL.tail.tail.tail.tail.tail.tail) (cat_sgn rfl hL.tail.tail.tail.tail.tail.tail.tail) a1 a2 a3 n1 n2 n3 c1 c2 c3 cs ts fs k1 m1 h1 k2 m2 h2 k3 m3 h3
end Go.Proofs.YtdmkghgachapaabGreatDoor.factsChecksLaw
