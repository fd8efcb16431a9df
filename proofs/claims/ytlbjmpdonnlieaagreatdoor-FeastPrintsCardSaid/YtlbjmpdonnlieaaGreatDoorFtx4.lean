/- Contracts of feast.Print and of the law's fourth. -/
import Derived.Test.YtlbjmpdonnlieaaGreatDoorFtx3
import Derived.Test.YtlbjmpdonnlieaaGreatDoorMgFb
namespace Go.Proofs.YtlbjmpdonnlieaaGreatDoor
set_option linter.unusedVariables false
set_option linter.unusedSimpArgs false
set_option maxRecDepth 100000
open Go.RowKit Go.Shelf
theorem laid_pow {W : World} {rest : List (String × DataW Unit)} {d : DataW Unit} (hd : d = Lib.tabData .u64 Lib.pow10Tab) (h : laidMet Tryz.prog (("internal/strconv.uint64pow10", d) :: rest) W) : Pow W := by
  subst hd
  exact Lib.tabIs_of_head (g := 0) (t := 217) (e := 113) (n := 20) (by kernel_rfl) (by kernel_rfl) Tryz.underlying217 Tryz.underlying113 (by kernel_rfl) (by kernel_rfl) h

abbrev strOut (s : List UInt8) (e : Int) : Value := .tuple #[.string ⟨s.toArray⟩, .int .i64 e]
def printOut (t : Fst) : Value := if fstErr t ≠ 0 then strOut [] (fstErr t) else strOut (txtF t) 0
theorem parF_0 (k : Int) (s : List UInt8) : parF 0 k s = s := by unfold parF; rw [if_neg (by have := lvF_in k; omega)]
set_option maxHeartbeats 2000000 in
theorem feast_Print (w : World) (m : Int) (hm : w.cell? ⟨1, 0, none⟩ = some (.int .i64 m)) (hlv : Lvl w) (hsg : Sgn w) (hpw : Pow w) (k a b : Int) (s : ByteArray) (ks : List Fst) (ad : Option Addr) (n c : Nat) (hsub : FSub w w.heap.size (.node k a b s ks) ad n) (hc : n ≤ c) (hm' : c ≤ 9223372036854775807) :
    Calls Tryz.prog 23 #[.agg (fV k a b s ad n c)] w (fun e w' => e = .returned (printOut (.node k a b s ks)) ∧ Below w.heap.size w w') := by
  have cb := feast_both w m hm hlv hsg k a b s ks ad n c hsub hc hm'
  unfold FBoth at cb
  have CB := Lib.hid cb
  have CS := Lib.hid (fun (h : fstErr (.node k a b s ks) = 0) (V : World) (hV : Below w.heap.size w V) => feast_show (.node k a b s ks) V ad n c 0 (fst_ok h).1 ((hsub.below hV (Nat.le_refl _)).more hV.size) hc hm' (txt_small h) (by omega) (by omega) (hpw.below hV))
  unfold ShowGoal ShowPost at CS
  simp only [Fst.kind, Fst.va, Fst.vb, Fst.nm, parF_0] at CS
  have HO := Lib.hid (show printOut (.node k a b s ks) = if fstErr (.node k a b s ks) ≠ 0 then strOut [] (fstErr (.node k a b s ks)) else strOut (txtF (.node k a b s ks)) 0 from rfl)
  generalize fstErr (.node k a b s ks) = E at CB HO CS
  generalize printOut (.node k a b s ks) = po at HO ⊢
  generalize txtF (.node k a b s ks) = X at HO CS
  clear hm hlv hsg hpw hsub cb
  have o0 := One.new w (fO k a b s ad n c)
  by_cases hE : E = 0
  case neg =>
    have hf := Lib.hid (HO.out.trans (if_pos hE))
    have hE' : (E != 0) = true := by simpa using hE
    clear hE CS
    go_enter Tryz.func23, Tryz.ntmps23
    go_upto_region 1 with fail
    generalize World.alloc w _ = W0 at o0 ⊢
    have hq0 : Below w.heap.size w W0 := o0.2
    have o1 := o0.1
    have d0 := o1.cell 0; have d1 := o1.cell 1; have d2 := o1.cell 2; have d3 := o1.cell 3; have d4 := o1.cell 4; simp at d0 d1 d2 d3 d4
    go_wp2_with (go_at_call 9; refine (CB.out _ hq0).1.mono ?_; rintro e w1 ⟨rfl, hb⟩)
    go_ret2
    exact ⟨by rw [hf.out]; rfl, below_then hq0 hb⟩
  subst hE
  have hf := Lib.hid (HO.out.trans (if_neg (by simp)))
  have CS2 := Lib.hid (CS.out rfl)
  clear CS HO
  go_enter Tryz.func23, Tryz.ntmps23
  go_upto_region 1 with fail
  generalize World.alloc w _ = W0 at o0 ⊢
  have hq0 : Below w.heap.size w W0 := o0.2
  have o1 := o0.1
  have d0 := o1.cell 0; have d1 := o1.cell 1; have d2 := o1.cell 2; have d3 := o1.cell 3; have d4 := o1.cell 4; simp at d0 d1 d2 d3 d4
  go_upto_region 4 with (go_at_call 9; refine (CB.out _ hq0).1.mono ?_; rintro e w1 ⟨rfl, hb⟩)
  have hq1 := below_then hq0 hb
  replace o1 := o1.then_ hb
  clear d0 d1 d2 d3 d4 hb
  have d0 := o1.cell 0; have d1 := o1.cell 1; have d2 := o1.cell 2; have d3 := o1.cell 3; have d4 := o1.cell 4; simp at d0 d1 d2 d3 d4
  go_wp2_with (go_at_call 52; refine (CS2.out _ hq1).mono ?_; rintro e w2 ⟨rfl, hb⟩)
  go_ret2
  exact ⟨by rw [hf.out]; rfl, below_then hq1 hb⟩
abbrev gregF : ByteArray := ⟨#[103, 114, 101, 103, 111, 114, 105, 97, 110]⟩
abbrev fourthT : Fst := .node 12 4 11 gregF [.node 3 3 0 ⟨#[]⟩ []]
theorem law_fourth (w : World) : Calls Tryz.prog 24 #[] w fun e w' => ∃ g : Nat, e = .returned (.agg (fV 12 4 11 gregF (some ⟨g, 0, none⟩) 1 1)) ∧ FSub w' w'.heap.size fourthT (some ⟨g, 0, none⟩) 1 ∧ Below w.heap.size w w' := by
  have o0 := One.new w (fO 0 0 0 ⟨#[]⟩ none 0 0)
  go_enter Tryz.func24, Tryz.ntmps24
  go_upto_region 1 with fail
  generalize World.alloc w _ = W0 at o0 ⊢
  have hq0 : Below w.heap.size w W0 := o0.2
  have a0 : At W0 w.heap.size (fO 0 0 0 ⟨#[]⟩ none 0 0) := o0.1
  have hl := a0.lt
  have z0 := a0.cell 0; have z1 := a0.cell 1; have z2 := a0.cell 2; have z3 := a0.cell 3; have z4 := a0.cell 4; simp at z0 z1 z2 z3 z4
  have f0 := a0.frozen 0; have f1 := a0.frozen 1; have f2 := a0.frozen 2; have f3 := a0.frozen 3; have f4 := a0.frozen 4
  have hne : w.heap.size ≠ W0.heap.size := by omega
  go_wp2_with fail
  have AF := a0.store5 (.int .i64 12) (.int .i64 4) (.int .i64 11) (.string gregF) (.slice (some ⟨W0.heap.size, 0, none⟩) 1 1)
  have BF := below_set5 hq0 (p := w.heap.size) (by omega) (.int .i64 12) (.int .i64 4) (.int .i64 11) (.string gregF) (.slice (some ⟨W0.heap.size, 0, none⟩) 1 1)
  have hsz : W0.heap.size = (((((W0.setCell ⟨w.heap.size, 0, none⟩ (.int .i64 12)).setCell ⟨w.heap.size, 1, none⟩ (.int .i64 4)).setCell ⟨w.heap.size, 2, none⟩ (.int .i64 11)).setCell ⟨w.heap.size, 3, none⟩ (.string gregF)).setCell ⟨w.heap.size, 4, none⟩ (.slice (some ⟨W0.heap.size, 0, none⟩) 1 1)).heap.size := by simp [World.setCell]
  clear f0 f1 f2 f3 f4 z0 z1 z2 z3 z4 hq0 a0 o0 hl hne
  generalize hg : W0.heap.size = g0 at *
  generalize World.setCell (World.setCell _ _ _) _ _ = W5 at AF BF hsz ⊢
  clear hg
  have AK := At.newAt W5 (fO 3 3 0 ⟨#[]⟩ none 0 0) g0 hsz
  have A2 := AF.alloc (fO 3 3 0 ⟨#[]⟩ none 0 0)
  have B2 := below_new BF (fO 3 3 0 ⟨#[]⟩ none 0 0)
  generalize World.alloc W5 _ = W6 at AK A2 B2 ⊢
  have y0 := A2.cell 0; have y1 := A2.cell 1; have y2 := A2.cell 2; have y3 := A2.cell 3; have y4 := A2.cell 4; simp at y0 y1 y2 y3 y4
  exact bodyPost_ret (v := .agg (fV 12 4 11 gregF (some ⟨g0, 0, none⟩) 1 1)) (by simp [results, Tryz.results24, go_sem, y0, y1, y2, y3, y4]) rfl
    ⟨g0, rfl, by
      rw [FSub]
      refine ⟨⟨by unfold I64; omega, by unfold I64; omega, by unfold I64; omega, by decide⟩, rfl, by omega, fun _ => ⟨g0, 0, rfl, AK.lt, ?_⟩⟩
      rw [FRow, FRow]
      exact ⟨⟨none, 0, 0, ⟨AK.cell 0, AK.cell 1, AK.cell 2, AK.cell 3, AK.cell 4, by omega, by omega⟩, fsub_leaf (by unfold I64; omega) (by unfold I64; omega) (by unfold I64; omega) (by decide) none⟩, trivial⟩, B2⟩
end Go.Proofs.YtlbjmpdonnlieaaGreatDoor
