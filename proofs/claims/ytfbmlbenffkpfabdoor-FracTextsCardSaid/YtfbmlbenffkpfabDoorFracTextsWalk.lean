/- FracTexts: the Go text returns true at every input, and writes nothing that was there. -/
import Derived.Test.YtfbmlbenffkpfabDoorRows
import Derived.Test.YtfbmlbenffkpfabDoorTxt6
import Derived.Test.YtfbmlbenffkpfabDoorLaid
import Derived.Test.YtfbmlbenffkpfabDoorFracOpen
import Derived.ChangeMaps5
import Derived.SizedLaws
namespace Go.Proofs.YtfbmlbenffkpfabDoor.fracTextsLaw
set_option linter.unusedVariables false
set_option maxRecDepth 100000
open Go.RowKit Go.ChangeShapes Go.WideShapes Go.Shelf Num

theorem lit : rdOut [45, 51, 47, 50] = fracVal (-3) 2 0 := by
  have e1 : Lib.itoa (-3) = [45, 51] := by unfold Lib.itoa; rw [if_pos (by decide)]; show 45 :: Lib.decDigits 3 = _; rw [dd_one 3 (by omega)]; rfl
  have e2 : Lib.itoa 2 = [50] := by unfold Lib.itoa; rw [if_neg (by decide)]; show Lib.decDigits 2 = _; rw [dd_one 2 (by omega)]; rfl
  have hl : (fracS (-3) 2).data.toList = [45, 51, 47, 50] := by rw [fracS_list, if_neg (by decide), e1, e2]; rfl
  obtain ⟨h1, h2, h3⟩ := read_show (n := -3) (d := 2) (by decide) hl
  rw [rdOut_ref, if_pos h1, h2, h3]
theorem form (l : List UInt8) : ∃ a b e, rdOut l = .tuple #[.agg #[.int .i64 a, .int .i64 b], .int .i64 e] := by
  unfold rdOut fracVal
  split <;> exact ⟨_, _, _, rfl⟩
set_option maxHeartbeats 8000000 in
theorem core (x1 x2 : Int) (s : ByteArray) (w : World) (h1 : -9223372036854775808 ≤ x1) (h2 : x1 ≤ 9223372036854775807) (h3 : -9223372036854775808 ≤ x2) (h4 : x2 ≤ 9223372036854775807)
    (hs : s.size ≤ 140737488355328) (ht : Pow w) (he : Errs w) :
    Calls Tryd.prog 3 #[.agg #[.int .i64 x1, .int .i64 x2], .string s] w fun e w' => e = .returned (.bool true) ∧ Below w.heap.size w w' := by
  have HT := Lib.hid ht; have HE := Lib.hid he; clear ht he
  have o := One.new w (.cells #[.int .i64 x1, .int .i64 x2] 23)
  obtain ⟨p, q, ee, hf⟩ := form s.data.toList
  have HF := Lib.hid hf; clear hf
  go_enter Tryd.func3, Tryd.ntmps3
  go_wp2_with fail
  refine (frac_Read ⟨#[45, 51, 47, 50]⟩ _ (by decide) (HT.out.below o.2) (HE.out.below o.2)).mono ?_
  rw [show rdOut (⟨#[45, 51, 47, 50]⟩ : ByteArray).data.toList = fracVal (-3) 2 0 from lit, fracVal]
  rintro e w1 ⟨rfl, hb⟩
  have o1 := o.step hb
  have x0 : w1.cell? ⟨w.heap.size, 0, none⟩ = some (.int .i64 x1) := o1.1.cell 0
  have x1' : w1.cell? ⟨w.heap.size, 1, none⟩ = some (.int .i64 x2) := o1.1.cell 1
  have z1 := o1.1.lt
  have O1 := Lib.hid (o1.alloc (.cells #[.int .i64 (-3), .int .i64 2] 23)); clear o o1 hb
  go_wp2_with fail
  generalize World.alloc w1 _ = W1 at O1 ⊢
  clear x0 x1' z1
  refine (frac_Text x1 x2 _ h1 h2 h3 h4 (HT.out.below O1.out.2)).mono ?_
  rcases Bool.eq_false_or_eq_true (fracOk x1 x2) with hk | hk
  · rw [show fracTxt x1 x2 = .tuple #[.string (fracS x1 x2), .int .i64 0] by unfold fracTxt; rw [hk]; rfl]
    rintro e w2 ⟨rfl, hb⟩
    have o2 := O1.out.step hb
    have x0 : w2.cell? ⟨w.heap.size, 0, none⟩ = some (.int .i64 x1) := o2.1.cell 0
    have x1' : w2.cell? ⟨w.heap.size, 1, none⟩ = some (.int .i64 x2) := o2.1.cell 1
    have O2 := Lib.hid o2; clear o2 hb O1
    go_wp2_with fail
    refine (ref_FracOK x1 x2 _ h1 h2 h3 h4).mono ?_
    rw [hk]
    rintro e w3 ⟨rfl, hb⟩
    have o3 := O2.out.step hb
    clear x0 x1' hk
    have x0 : w3.cell? ⟨w.heap.size, 0, none⟩ = some (.int .i64 x1) := o3.1.cell 0
    have x1' : w3.cell? ⟨w.heap.size, 1, none⟩ = some (.int .i64 x2) := o3.1.cell 1
    have O3 := Lib.hid o3; clear o3 hb O2
    go_wp2_with fail
    refine (ref_FracText x1 x2 _ h1 h2 h3 h4 (HT.out.below O3.out.2)).mono ?_
    rintro e w4 ⟨rfl, hb⟩
    have O4 := Lib.hid (O3.out.step hb); clear hb O3
    clear x0 x1'
    go_wp2_with fail
    refine (frac_Read s _ hs (HT.out.below O4.out.2) (HE.out.below O4.out.2)).mono ?_
    rw [HF.out]
    rintro e w5 ⟨rfl, hb⟩
    have b5 : Below w.heap.size w w5 := below_then O4.out.2 hb
    have B5 := Lib.hid b5; clear b5 hb O4
    go_wp2_with fail
    have b6 : Below w.heap.size w (w5.alloc (.cells #[.int .i64 p, .int .i64 q] 23)) := below_new B5.out _
    have A6 := Lib.hid (At.new w5 (.cells #[.int .i64 p, .int .i64 q] 23))
    have B6 := Lib.hid b6; clear b6
    generalize World.alloc w5 _ = W6 at A6 B6 ⊢
    refine (ref_FracRead s _ hs).mono ?_
    rw [HF.out]
    rintro e w7 ⟨rfl, hb⟩
    have a7 := A6.out.then_ hb
    have y0 : w7.cell? ⟨w5.heap.size, 0, none⟩ = some (.int .i64 p) := a7.cell 0
    have y1 : w7.cell? ⟨w5.heap.size, 1, none⟩ = some (.int .i64 q) := a7.cell 1
    have z7 := a7.lt
    have B7 := Lib.hid (below_then B6.out hb); clear a7 hb A6 B6
    go_wp2_with fail
    go_ret
    exact ⟨ret_bool (by simp), below_new B7.out _⟩
  · rw [show fracTxt x1 x2 = .tuple #[.string ⟨#[]⟩, .int .i64 8] by unfold fracTxt; rw [hk]; rfl]
    rintro e w2 ⟨rfl, hb⟩
    have o2 := O1.out.step hb
    have x0 : w2.cell? ⟨w.heap.size, 0, none⟩ = some (.int .i64 x1) := o2.1.cell 0
    have x1' : w2.cell? ⟨w.heap.size, 1, none⟩ = some (.int .i64 x2) := o2.1.cell 1
    have O3 := Lib.hid o2; clear o2 hb O1
    go_wp2_with fail
    refine (ref_FracOK x1 x2 _ h1 h2 h3 h4).mono ?_
    rw [hk]
    rintro e w3 ⟨rfl, hb⟩
    clear hk
    have O4 := Lib.hid (O3.out.step hb); clear hb O3
    clear x0 x1'
    go_wp2_with fail
    refine (frac_Read s _ hs (HT.out.below O4.out.2) (HE.out.below O4.out.2)).mono ?_
    rw [HF.out]
    rintro e w5 ⟨rfl, hb⟩
    have b5 : Below w.heap.size w w5 := below_then O4.out.2 hb
    have B5 := Lib.hid b5; clear b5 hb O4
    go_wp2_with fail
    have b6 : Below w.heap.size w (w5.alloc (.cells #[.int .i64 p, .int .i64 q] 23)) := below_new B5.out _
    have A6 := Lib.hid (At.new w5 (.cells #[.int .i64 p, .int .i64 q] 23))
    have B6 := Lib.hid b6; clear b6
    generalize World.alloc w5 _ = W6 at A6 B6 ⊢
    refine (ref_FracRead s _ hs).mono ?_
    rw [HF.out]
    rintro e w7 ⟨rfl, hb⟩
    have a7 := A6.out.then_ hb
    have y0 : w7.cell? ⟨w5.heap.size, 0, none⟩ = some (.int .i64 p) := a7.cell 0
    have y1 : w7.cell? ⟨w5.heap.size, 1, none⟩ = some (.int .i64 q) := a7.cell 1
    have z7 := a7.lt
    have B7 := Lib.hid (below_then B6.out hb); clear a7 hb A6 B6
    go_wp2_with fail
    go_ret
    exact ⟨ret_bool (by simp), below_new B7.out _⟩
theorem walk {H : Type} {enc : TypeId × Value → H} {v0 v1 : Value} {d0 d1 : DataW H} {p0 p1 : List MemPlace} {base : Nat} (W : World)
    (o0 : Value.okWide Tryd.prog W .any base 23 v0) (h0 : DataW.Trod enc Tryd.prog W 0 (fun _ => true) true 23 v0 d0 p0)
    (o1 : Value.okWide Tryd.prog W .any base 9 v1) (h1 : DataW.Trod enc Tryd.prog W 0 (fun _ => true) true 9 v1 d1 p1)
    (hsz : ∀ bytes, d1 = .lit (.string bytes) → bytes.length ≤ reachBytes) (hL : laidMet Tryd.prog Rows.fracTextsRow.laid W) :
    Calls Tryd.prog 3 #[v0, v1] W fun e w' => e = .returned (.bool true) ∧ Below W.heap.size W w' := by
  obtain ⟨a, b, rfl, ⟨a1, a2⟩, b1, b2⟩ := open_Frac o0 h0
  obtain ⟨s, rfl, rfl, rfl, hs⟩ := Go.ChangeMaps.open_string Tryd.underlying9 o1 h1
  have hlim : s.size ≤ 140737488355328 := by
    have h1 := hsz s.data.toList rfl
    have h2 := reachBytes_lt
    have e3 : (2 : Nat) ^ 47 = 140737488355328 := by decide
    rw [str_len] at h1
    omega
  exact core a b s W a1 a2 b1 b2 hlim (laid_pow pow_data.symm hL.tail.tail) (laid_errs hL.tail.tail.tail)
end Go.Proofs.YtfbmlbenffkpfabDoor.fracTextsLaw
