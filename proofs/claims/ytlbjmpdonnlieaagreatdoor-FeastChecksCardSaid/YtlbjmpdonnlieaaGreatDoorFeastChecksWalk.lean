import Derived.Test.YtlbjmpdonnlieaaGreatDoorRows
import Derived.Test.YtlbjmpdonnlieaaGreatDoorMgFb
namespace Go.Proofs.YtlbjmpdonnlieaaGreatDoor.feastChecksLaw
set_option linter.unusedVariables false
set_option linter.unusedSimpArgs false
set_option maxRecDepth 100000
open Go.RowKit Go.ChangeShapes Go.WideShapes Go.Shelf
set_option maxHeartbeats 4000000 in
theorem core (w : World) (m : Int) (hm : w.cell? ⟨1, 0, none⟩ = some (.int .i64 m)) (hlv : Lvl w) (hsg : Sgn w) (k a b : Int) (s : ByteArray) (ks : List Fst) (ad : Option Addr) (n c : Nat) (h : FSub w w.heap.size (.node k a b s ks) ad n) (hc : n ≤ c) (hm' : c ≤ 9223372036854775807) :
    Calls Tryz.prog 3 #[.agg (fV k a b s ad n c)] w fun e w' => e = .returned (.bool true) ∧ Below w.heap.size w w' := by
  have CL := Lib.hid (fun (W : World) (hW : Below w.heap.size w W) => ((feast_both w m hm hlv hsg 3 7 0 ⟨#[]⟩ [] none 0 0 (fsub_leaf (by unfold I64; omega) (by unfold I64; omega) (by unfold I64; omega) (by decide) none) (by omega) (by omega)) W hW).1)
  rw [fstErr_7] at CL
  obtain ⟨E, hE⟩ : ∃ E, E = fstErr (.node k a b s ks) := ⟨_, rfl⟩
  have cb := feast_both w m hm hlv hsg k a b s ks ad n c h hc hm'
  rw [← hE] at cb
  unfold FBoth at cb
  have CB := Lib.hid cb
  clear cb
  clear hm hlv hsg h hE
  have o0 := One.new w (fO k a b s ad n c)
  go_enter Tryz.func3, Tryz.ntmps3
  go_upto_region 1 with fail
  generalize World.alloc w _ = W0 at o0 ⊢
  have hq0 : Below w.heap.size w W0 := o0.2
  go_upto_region 3 with (go_at_call 9; refine (CL.out _ hq0).mono ?_; rintro e w1 ⟨rfl, hb⟩)
  replace o0 := o0.step hb
  clear hb hq0
  (refine region_class (One w (fO k a b s ad n c)) (by kernel_rfl) (by kernel_rfl) (o0.drew) ?_; repeat ((first | (refine class_take ?_ (by rfl) ?_ ?_; rotate_left; focus (intro wq hq; ((have hqb : Below w.heap.size w wq := hq.2; have x0 : wq.cell? ⟨w.heap.size, 0, none⟩ = some (.int .i64 k) := hq.1.cell 0; have x1 : wq.cell? ⟨w.heap.size, 1, none⟩ = some (.int .i64 a) := hq.1.cell 1; have x2 : wq.cell? ⟨w.heap.size, 2, none⟩ = some (.int .i64 b) := hq.1.cell 2; have x3 : wq.cell? ⟨w.heap.size, 3, none⟩ = some (.string s) := hq.1.cell 3; have x4 : wq.cell? ⟨w.heap.size, 4, none⟩ = some (.slice ad n c) := hq.1.cell 4)); go_simp; first | done | with_reducible rfl | ((first | (go_at_call 9; (with_reducible refine (CB.out _ hqb).1.mono ?_); rintro e w' ⟨rfl, hb⟩; refine ⟨?_, hq.step hb⟩; with_reducible rfl) | (go_at_call 10; (with_reducible refine (CB.out _ hqb).2.mono ?_); rintro e w' ⟨rfl, hb⟩; refine ⟨?_, hq.step hb⟩; with_reducible rfl))))) | refine class_skip (by rfl) ?_); try simp only [Act.put, List.setIfInBounds_toArray, List.set_cons_zero, List.set_cons_succ]))
  refine wpQuiet_nil ?_
  intro W2 hW2
  go_wp2_with fail
  go_ret
  exact ⟨ret_bool (by simp), hW2.2⟩
theorem walk {H : Type} {enc : TypeId × Value → H} {v0 : Value} {d0 : DataW H} {p0 : List MemPlace} {base : Nat} (W : World)
    (o0 : Value.okWide Tryz.prog W .any base 24 v0) (h0 : DataW.Trod enc Tryz.prog W 0 (fun _ => true) true 24 v0 d0 p0)
    (hL : laidMet Tryz.prog Rows.feastChecksRow.laid W) (hsh : W.ShapedOpen Tryz.prog) :
    Calls Tryz.prog 3 #[v0] W fun e w' => e = .returned (.bool true) ∧ Below W.heap.size W w' := by
  exact q35
end Go.Proofs.YtlbjmpdonnlieaaGreatDoor.feastChecksLaw
