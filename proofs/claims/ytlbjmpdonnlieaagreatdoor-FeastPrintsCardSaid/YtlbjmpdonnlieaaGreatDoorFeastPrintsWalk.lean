/- FeastPrints: the Go text returns true at every input, and writes nothing that was there. -/
import Derived.Test.YtlbjmpdonnlieaaGreatDoorRows
import Derived.Test.YtlbjmpdonnlieaaGreatDoorFtx4
namespace Go.Proofs.YtlbjmpdonnlieaaGreatDoor.feastPrintsLaw
set_option linter.unusedVariables false
set_option linter.unusedSimpArgs false
set_option maxRecDepth 100000
open Go.RowKit Go.ChangeShapes Go.WideShapes Go.Shelf

theorem cat_pow : (Rows.laid_internal_strconv_uint64pow10 : DataW Unit) = Lib.tabData .u64 Lib.pow10Tab := by kernel_rfl
theorem four_err : fstErr fourthT = 0 := by decide +kernel
theorem four_txt : txtF fourthT = [110, 116, 104, 32, 52, 32, 105, 110, 32, 103, 114, 101, 103, 111, 114, 105, 97, 110, 32, 49, 49, 32, 119, 101, 101, 107, 100, 97, 121, 32, 51] := by decide +kernel
theorem four_out : printOut fourthT = strOut [110, 116, 104, 32, 52, 32, 105, 110, 32, 103, 114, 101, 103, 111, 114, 105, 97, 110, 32, 49, 49, 32, 119, 101, 101, 107, 100, 97, 121, 32, 51] 0 := by
  unfold printOut
  rw [if_neg (by rw [four_err]; simp), four_txt]
set_option maxHeartbeats 4000000 in
theorem core (w : World) (m : Int) (hm : w.cell? ⟨1, 0, none⟩ = some (.int .i64 m)) (hlv : Lvl w) (hsg : Sgn w) (hpw : Pow w) (k a b : Int) (s : ByteArray) (ks : List Fst) (ad : Option Addr) (n c : Nat) (h : FSub w w.heap.size (.node k a b s ks) ad n) (hc : n ≤ c) (hm' : c ≤ 9223372036854775807) :
    Calls Tryz.prog 7 #[.agg (fV k a b s ad n c)] w fun e w' => e = .returned (.bool true) ∧ Below w.heap.size w w' := by
  have hgm := World.block_lt_of_cell? _ _ hm
  have CP := Lib.hid (fun (W : World) (hW : Below w.heap.size w W) (k a b : Int) (s : ByteArray) (ks : List Fst) (ad : Option Addr) (n c : Nat) (h : FSub W W.heap.size (.node k a b s ks) ad n) (hc : n ≤ c) (hm' : c ≤ 9223372036854775807) => feast_Print W m ((hW.cell (p := ⟨1, 0, none⟩) hgm).trans hm) (hlv.below hW) (hsg.below hW) (hpw.below hW) k a b s ks ad n c h hc hm')
  have C1 := Lib.hid (fun (W : World) (hW : Below w.heap.size w W) => CP.out W hW k a b s ks ad n c ((h.below hW (Nat.le_refl _)).more hW.size) hc hm')
  have cb := feast_both w m hm hlv hsg k a b s ks ad n c h hc hm'
  unfold FBoth at cb
  have CB := Lib.hid cb
  have CT := Lib.hid (fun (he : fstErr (.node k a b s ks) = 0) (V : World) (hV : Below w.heap.size w V) => ref_FeastText (.node k a b s ks) V ad n c (fst_ok he).1 ((h.below hV (Nat.le_refl _)).more hV.size) hc hm' (txt_small he) (hpw.below hV))
  unfold TextGoal ShowPost at CT
  simp only [Fst.kind, Fst.va, Fst.vb, Fst.nm] at CT
  have HO := Lib.hid (show printOut (.node k a b s ks) = if fstErr (.node k a b s ks) ≠ 0 then strOut [] (fstErr (.node k a b s ks)) else strOut (txtF (.node k a b s ks)) 0 from rfl)
  generalize fstErr (.node k a b s ks) = E at CB HO CT
  generalize printOut (.node k a b s ks) = po at HO C1
  generalize txtF (.node k a b s ks) = X at HO CT
  clear hm hlv hsg hpw h hgm cb
  have o0 := One.new w (fO k a b s ad n c)
  go_enter Tryz.func7, Tryz.ntmps7
  go_upto_region 1 with fail
  generalize World.alloc w _ = W0 at o0 ⊢
  have hq0 : Below w.heap.size w W0 := o0.2
  have o1 := o0.1
  clear o0
  go_wp2_with fail
  refine (law_fourth _).mono ?_
  rintro e w1 ⟨g, rfl, hfs, hb⟩
  have hq1 := below_then hq0 hb
  replace o1 := o1.then_ hb
  have CF := CP.out w1 hq1 12 4 11 gregF _ (some ⟨g, 0, none⟩) 1 1 hfs (by omega) (by omega)
  rw [four_out] at CF
  have CFH := Lib.hid CF
  clear hb hfs CF CP
  go_wp2_with fail
  refine CFH.out.mono ?_
  rintro e w2 ⟨rfl, hb⟩
  have hq2 := below_then hq1 hb
  replace o1 := o1.then_ hb
  clear hb CFH
  have d0 := o1.cell 0; have d1 := o1.cell 1; have d2 := o1.cell 2; have d3 := o1.cell 3; have d4 := o1.cell 4; simp at d0 d1 d2 d3 d4
  by_cases hE : E = 0
  case neg =>
    have hf := HO.out.trans (if_pos hE)
    rw [hf] at C1
    have hE' : (E != 0) = true := by simpa using hE
    clear hE hf HO CT
    go_upto_region 5 with (go_at_call 23; refine (C1.out _ hq2).mono ?_; rintro e w3 ⟨rfl, hb⟩)
    have hq3 := below_then hq2 hb
    replace o1 := o1.then_ hb
    clear d0 d1 d2 d3 d4 hb
    have d0 := o1.cell 0; have d1 := o1.cell 1; have d2 := o1.cell 2; have d3 := o1.cell 3; have d4 := o1.cell 4; simp at d0 d1 d2 d3 d4
    go_wp2_with (go_at_call 10; refine (CB.out _ hq3).2.mono ?_; rintro e w4 ⟨rfl, hb⟩)
    go_ret
    exact ⟨ret_bool (by simp), below_then hq3 hb⟩
  subst hE
  have hf := HO.out.trans (if_neg (by simp))
  rw [hf] at C1
  have CT2 := Lib.hid (CT.out rfl)
  clear hf HO CT
  go_upto_region 5 with (go_at_call 23; refine (C1.out _ hq2).mono ?_; rintro e w3 ⟨rfl, hb⟩)
  have hq3 := below_then hq2 hb
  replace o1 := o1.then_ hb
  clear d0 d1 d2 d3 d4 hb
  have d0 := o1.cell 0; have d1 := o1.cell 1; have d2 := o1.cell 2; have d3 := o1.cell 3; have d4 := o1.cell 4; simp at d0 d1 d2 d3 d4
  go_upto_region 8 with (go_at_call 10; refine (CB.out _ hq3).2.mono ?_; rintro e w4 ⟨rfl, hb⟩)
  have hq4 := below_then hq3 hb
  replace o1 := o1.then_ hb
  clear d0 d1 d2 d3 d4 hb
  have d0 := o1.cell 0; have d1 := o1.cell 1; have d2 := o1.cell 2; have d3 := o1.cell 3; have d4 := o1.cell 4; simp at d0 d1 d2 d3 d4
  go_wp2_with (go_at_call 25; refine (CT2.out _ hq4).mono ?_; rintro e w5 ⟨rfl, hb⟩)
  go_ret
  exact ⟨ret_bool (by simp), below_then hq4 hb⟩
theorem walk {H : Type} {enc : TypeId × Value → H} {v0 : Value} {d0 : DataW H} {p0 : List MemPlace} {base : Nat} (W : World)
    (o0 : Value.okWide Tryz.prog W .any base 24 v0) (h0 : DataW.Trod enc Tryz.prog W 0 (fun _ => true) true 24 v0 d0 p0)
    (hL : laidMet Tryz.prog Rows.feastPrintsRow.laid W) (hsh : W.ShapedOpen Tryz.prog) :
    Calls Tryz.prog 7 #[v0] W fun e w' => e = .returned (.bool true) ∧ Below W.heap.size W w' := by
  obtain ⟨k, a, b, s, ks, ad, n, c, rfl, h1, h2, h3⟩ := open_Feast o0 h0
  obtain ⟨m, hm⟩ : ∃ m : Int, W.cell? ⟨1, 0, none⟩ = some (.int .i64 m) := Tryz.laysLaysMn146.s1_3 W hsh
  exact core W m hm (cat_lvl rfl hL.tail.tail.tail.tail.tail.tail) (cat_sgn rfl hL.tail.tail.tail.tail.tail.tail.tail) (laid_pow cat_pow hL.tail.tail) k a b s ks ad n c h3 h1 h2
end Go.Proofs.YtlbjmpdonnlieaaGreatDoor.feastPrintsLaw
