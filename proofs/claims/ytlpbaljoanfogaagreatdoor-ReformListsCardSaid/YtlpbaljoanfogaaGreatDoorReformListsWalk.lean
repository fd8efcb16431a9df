import Derived.Test.YtlpbaljoanfogaaGreatDoorRows
import Derived.Test.YtlpbaljoanfogaaGreatDoorMg1
import Derived.Test.YtlpbaljoanfogaaGreatDoorMg7
import Derived.Test.YtlpbaljoanfogaaGreatDoorMg8
import Derived.Test.YtlpbaljoanfogaaGreatDoorMgI
import Derived.Test.YtlpbaljoanfogaaGreatDoorMgV
set_option linter.unusedSimpArgs false
namespace Go.Proofs.YtlpbaljoanfogaaGreatDoor.reformListsLaw
set_option linter.unusedVariables false
set_option maxRecDepth 100000
open Go.RowKit Go.ChangeShapes Go.WideShapes Go.Shelf
theorem then2 {w w' : World} {a : Option Addr} {n : Nat} {xs : List Int} (h : Ints w w.heap.size a n xs) (hb : Below w.heap.size w w') : Ints w' w'.heap.size a n xs := (h.below hb (Nat.le_refl _)).more hb.size
theorem good_err : reformErr sChange chgParts = 0 := by decide +kernel
theorem jul_b : toB [106, 117, 108, 105, 97, 110] 1582 9 15 577746 = true := by decide +kernel
theorem greg_b : toB [103, 114, 101, 103, 111, 114, 105, 97, 110] 1582 9 15 577736 = true := by decide +kernel
def goodN (k : Nat) : Int := if k = 0 then 577746 else 577736
theorem good_ans : Answers chgParts 1582 10 15 goodN (fun _ => 0) := by
  intro k f s hk
  match k, hk with
  | 0, hk =>
    cases hk
    obtain ⟨r, hr, h1, h2⟩ := to_row jul_b (by omega) (by omega) (by omega) (by omega)
    exact ⟨r, hr, h1, h2, fun _ => by unfold goodN; rw [if_pos rfl]; omega⟩
  | 1, hk =>
    cases hk
    obtain ⟨r, hr, h1, h2⟩ := to_row greg_b (by omega) (by omega) (by omega) (by omega)
    exact ⟨r, hr, h1, h2, fun _ => by unfold goodN; rw [if_neg (by omega)]; omega⟩
theorem good_out : outTo (keepR chgParts goodN (fun _ => 0)) goodN 2 = [577736] := by decide +kernel
set_option maxHeartbeats 4000000 in
theorem core (w : World) (mx : Int) (hmx : w.cell? ⟨0, 0, none⟩ = some (.int .i64 mx)) (hlv : Lvl w) (hsg : Sgn w) (nm : ByteArray) (a : Option Addr) (n c : Nat) (xs : List Prt) (hs : nm.size ≤ 9223372036854775807) (hc : n ≤ c) (h : Parts w w.heap.size a n xs) (y mo d : Int) :
    Calls Tryz.prog 4 #[.agg #[.string nm, .slice a n c], .agg #[.int .i64 y, .int .i64 mo, .int .i64 d]] w fun e w' => e = .returned (.bool true) ∧ Below w.heap.size w w' := by
  have hgm := World.block_lt_of_cell? _ _ hmx
  have MX : ∀ W, Below w.heap.size w W → W.cell? ⟨0, 0, none⟩ = some (.int .i64 mx) := fun W hW => (hW.cell (p := ⟨0, 0, none⟩) hgm).trans hmx
  have PA : ∀ W, Below w.heap.size w W → Parts W W.heap.size a n xs := fun W hW => (h.below hW (Nat.le_refl _)).more hW.size
  have CG := Lib.hid (fun (W : World) (hW : Below w.heap.size w W) (G : Nat) (hG : At W G (chgO sGregorian)) => reform_Days_ok W mx (MX W hW) (hlv.below hW) (hsg.below hW) sChange (some ⟨G, 0, none⟩) 2 2 chgParts (by decide) (by omega) (parts_two hG (by decide)) 1582 10 15 good_err goodN (fun _ => 0) good_ans)
  have CE := Lib.hid (fun (W : World) (hW : Below w.heap.size w W) => ref_ReformError W mx (MX W hW) nm a n c xs hs hc (PA W hW))
  have hD : (reformErr nm xs ≠ 0 ∧ ∀ W, Below w.heap.size w W → Calls Tryz.prog 16 #[.agg #[.string nm, .slice a n c], .agg #[.int .i64 y, .int .i64 mo, .int .i64 d]] W fun e w' => e = .returned (.tuple #[.slice none 0 0, .int .i64 (reformErr nm xs)]) ∧ Below W.heap.size W w') ∨
      (reformErr nm xs = 0 ∧ ∃ zs : List Int, (∀ W, Below w.heap.size w W → Calls Tryz.prog 16 #[.agg #[.string nm, .slice a n c], .agg #[.int .i64 y, .int .i64 mo, .int .i64 d]] W fun e w' => ∃ v, e = .returned (.tuple #[v, .int .i64 0]) ∧ DaysR zs W v w') ∧
        ∀ W, Below w.heap.size w W → Calls Tryz.prog 18 #[.agg #[.string nm, .slice a n c], .agg #[.int .i64 y, .int .i64 mo, .int .i64 d]] W fun e w' => ∃ v, e = .returned v ∧ DaysR zs W v w') := by
    by_cases hE : reformErr nm xs = 0
    · obtain ⟨_, _, _, hall⟩ := reformErr_parts hE
      obtain ⟨N, E, hA⟩ := answers_exist hall y mo d
      exact .inr ⟨hE, _, fun W hW => reform_Days_ok W mx (MX W hW) (hlv.below hW) (hsg.below hW) nm a n c xs hs hc (PA W hW) y mo d hE N E hA,
        fun W hW => ref_ReformDays W mx (MX W hW) nm a n c xs hs hc (PA W hW) y mo d hE N E hA⟩
    · exact .inl ⟨hE, fun W hW => reform_Days_bad W nm a n c xs hs hc (PA W hW) y mo d _ rfl hE⟩
  obtain ⟨E, hE⟩ : ∃ E, E = reformErr nm xs := ⟨_, rfl⟩
  rw [← hE] at CE hD
  have HD := Lib.hid hD
  clear hD hE MX PA hmx hlv hsg hgm h
  have o0 := (At.new w (refO nm a n c)).alloc (dateO y mo d)
  have d0 := At.new1 w (refO nm a n c) (dateO y mo d)
  have b0 := below_new (below_new (Below.refl w.heap.size w) (refO nm a n c)) (dateO y mo d)
  go_enter Tryz.func4, Tryz.ntmps4
  go_wp2_with fail
  generalize World.alloc (World.alloc w _) _ = W0 at o0 d0 b0 ⊢
  refine (law_change _).mono ?_
  rintro e w1 ⟨G, rfl, hG, hgl, hb⟩
  have O1 := Lib.hid (o0.then_ hb)
  have D1 := Lib.hid (d0.then_ hb)
  have B1 := Lib.hid (below_then b0 hb)
  have CF := Lib.hid (CG.out w1 B1.out G hG)
  clear o0 d0 b0 hb hG hgl CG
  go_wp2_with fail
  refine CF.out.mono ?_
  rw [good_out]
  rintro e w2 ⟨v, rfl, p, m, q, rfl, k1, k2, hI, hb⟩
  have O2 := Lib.hid (O1.out.then_ hb)
  have D2 := Lib.hid (D1.out.then_ hb)
  have B2 := Lib.hid (below_then B1.out hb)
  obtain rfl : m = 1 := by have := hI.1; simpa using this.symm
  have HI := Lib.hid hI
  clear hb CF O1 D1 B1 hI k1 k2
  go_wp2_with fail
  refine (ref_SameInts _ p (some ⟨w2.heap.size, 0, none⟩) 1 q 1 1 [577736] [577736] (then2 HI.out (below_new (Below.refl _ _) _)) (At.ints [577736] (At.new w2 _) (by unfold I64; simp) (by simp))).mono ?_
  rw [show (([577736] : List Int) == [577736]) = true from rfl]
  rintro e w3 ⟨rfl, hdr⟩
  have O3 := Lib.hid ((O2.out.alloc (.cells #[.int .i64 577736] 3)).drawn hdr)
  have D3 := Lib.hid ((D2.out.alloc (.cells #[.int .i64 577736] 3)).drawn hdr)
  have B3 := Lib.hid (below_drawn (below_new B2.out (.cells #[.int .i64 577736] 3)) hdr)
  clear hdr HI O2 D2 B2
  have q3 := O3.out; have u3 := D3.out
  have x0 := q3.cell 0; have x1 := q3.cell 1; simp at x0 x1
  have z0 := u3.cell 0; have z1 := u3.cell 1; have z2 := u3.cell 2; simp at z0 z1 z2
  have hl := q3.lt; have hl2 := u3.lt
  clear q3 u3
  rcases HD.out with ⟨hne, CD⟩ | ⟨rfl, zs, CD, CR⟩
  · have HC := Lib.hid CD
    have hne' : (E != 0) = true := by simpa using hne
    clear HD CD hne
    go_wp2_with fail
    refine (HC.out _ B3.out).mono ?_
    rintro e w4 ⟨rfl, hb⟩
    have O4 := Lib.hid (O3.out.then_ hb)
    have B4 := Lib.hid (below_then B3.out hb)
    clear hb O3 D3 B3 x0 x1 z0 z1 z2 hl hl2 HC
    have q4 := O4.out
    have x0 := q4.cell 0; have x1 := q4.cell 1; simp at x0 x1
    have hl := q4.lt
    clear q4
    go_wp2_with fail
    refine (CE.out _ B4.out).mono ?_
    rintro e w5 ⟨rfl, hb⟩
    have B5 := Lib.hid (below_then B4.out hb)
    clear hb x0 x1 hl
    go_wp2_with fail
    go_ret
    exact ⟨ret_bool (by simp), B5.out⟩
  · have HC := Lib.hid CD; have HR := Lib.hid CR
    clear HD CD CR
    go_wp2_with fail
    refine (HC.out _ B3.out).mono ?_
    rintro e w4 ⟨v, rfl, p1, m1, q1, rfl, k1, k2, hI, hb⟩
    have O4 := Lib.hid (O3.out.then_ hb)
    have D4 := Lib.hid (D3.out.then_ hb)
    have B4 := Lib.hid (below_then B3.out hb)
    have I4 := Lib.hid hI
    clear hb O3 D3 B3 x0 x1 z0 z1 z2 hl hl2 HC hI k1 k2
    have q4 := O4.out
    have x0 := q4.cell 0; have x1 := q4.cell 1; simp at x0 x1
    have hl := q4.lt
    clear q4
    go_wp2_with fail
    refine (CE.out _ B4.out).mono ?_
    rintro e w5 ⟨rfl, hb⟩
    have O5 := Lib.hid (O4.out.then_ hb)
    have D5 := Lib.hid (D4.out.then_ hb)
    have B5 := Lib.hid (below_then B4.out hb)
    have I5 := Lib.hid (then2 I4.out hb)
    clear hb x0 x1 hl O4 D4 B4 I4 CE
    have q5 := O5.out; have u5 := D5.out
    have x0 := q5.cell 0; have x1 := q5.cell 1; simp at x0 x1
    have z0 := u5.cell 0; have z1 := u5.cell 1; have z2 := u5.cell 2; simp at z0 z1 z2
    have hl := q5.lt; have hl2 := u5.lt
    clear q5 u5
    go_wp2_with fail
    refine (HR.out _ B5.out).mono ?_
    rintro e w6 ⟨v, rfl, p2, m2, q2, rfl, k1, k2, hI, hb⟩
    have B6 := Lib.hid (below_then B5.out hb)
    have I6 := Lib.hid (then2 I5.out hb)
    have J6 := Lib.hid hI
    clear hb x0 x1 z0 z1 z2 hl hl2 O5 D5 B5 I5 HR hI k1 k2
    go_wp2_with fail
    refine (ref_SameInts _ p1 p2 m1 q1 m2 q2 zs zs I6.out J6.out).mono ?_
    rw [show (zs == zs) = true from by simp]
    rintro e w7 ⟨rfl, hdr⟩
    have B7 := Lib.hid (below_drawn B6.out hdr)
    clear hdr
    go_wp2_with fail
    go_ret
    exact ⟨ret_bool (by simp), B7.out⟩
theorem walk {H : Type} {enc : TypeId × Value → H} {v0 v1 : Value} {d0 d1 : DataW H} {p0 p1 : List MemPlace} {base : Nat} (W : World)
    (o0 : Value.okWide Tryz.prog W .any base 24 v0) (h0 : DataW.Trod enc Tryz.prog W 0 (fun _ => true) true 24 v0 d0 p0)
    (o1 : Value.okWide Tryz.prog W .any base 26 v1) (h1 : DataW.Trod enc Tryz.prog W 0 (fun _ => true) true 26 v1 d1 p1)
    (hL : laidMet Tryz.prog Rows.reformListsRow.laid W) (hsh : W.ShapedOpen Tryz.prog) :
    Calls Tryz.prog 4 #[v0, v1] W fun e w' => e = .returned (.bool true) ∧ Below W.heap.size W w' := by
  obtain ⟨s, a, n, c, xs, rfl, hs, hc, _, hP⟩ := open_Reform o0 h0
  obtain ⟨cs, nn, rfl, hl, hf'⟩ := open_agg Tryz.underlying26 (by kernel_rfl) (by kernel_rfl) o1 h1
  obtain ⟨mx, hmx⟩ : ∃ m : Int, W.cell? ⟨0, 0, none⟩ = some (.int .i64 m) := Tryz.laysLaysMn146.s1_3 W hsh
  match cs, hl with
  | [v0, v1, v2], _ =>
    obtain ⟨_, _, e0, t0⟩ := hf' 0 _ rfl
    obtain ⟨_, _, e1, t1⟩ := hf' 1 _ rfl
    obtain ⟨_, _, e2, t2⟩ := hf' 2 _ rfl
    obtain ⟨z0, rfl, hz0⟩ := open_num t0
    obtain ⟨z1, rfl, hz1⟩ := open_num t1
    obtain ⟨z2, rfl, hz2⟩ := open_num t2
    simp at e0 e1 e2
    subst e0 e1 e2
    exact core W mx hmx (cat_lvl rfl hL.tail.tail.tail.tail.tail.tail) (cat_sgn rfl hL.tail.tail.tail.tail.tail.tail.tail) s a n c xs hs hc hP z0 z1 z2
end Go.Proofs.YtlpbaljoanfogaaGreatDoor.reformListsLaw
