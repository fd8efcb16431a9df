/- Contracts of frac.show, frac.Text and of the reference's FracText. -/
import Derived.Test.YtfbmlbenffkpfabDoorTxt2
import Derived.Test.YtfbmlbenffkpfabDoorFrac
import Derived.Test.YtfbmlbenffkpfabDoorOne
import Derived.Laws.Concat
namespace Go.Proofs.YtfbmlbenffkpfabDoor
set_option linter.unusedVariables false
set_option maxRecDepth 100000
open Go.RowKit Go.Shelf Num

def slashS : ByteArray := ⟨#[47]⟩
def fracS (n d : Int) : ByteArray := if d = 1 then itoaS n else itoaS n ++ (slashS ++ itoaS d)
theorem app_list (a b : ByteArray) : (a ++ b).data.toList = a.data.toList ++ b.data.toList := by simp [ByteArray.data_append]
theorem app_size (a b : ByteArray) : (a ++ b).size = a.size + b.size := by simp [ByteArray.size_append]
theorem fracS_list (n d : Int) : (fracS n d).data.toList = if d = 1 then Lib.itoa n else Lib.itoa n ++ 47 :: Lib.itoa d := by
  unfold fracS
  split
  · rfl
  · rw [app_list, app_list]; rfl
set_option maxHeartbeats 4000000 in
theorem frac_show (n d : Int) (w : World) (h1 : -9223372036854775808 ≤ n) (h2 : n ≤ 9223372036854775807) (h3 : -9223372036854775808 ≤ d) (h4 : d ≤ 9223372036854775807) (ht : Pow w) :
    Calls Tryd.prog 25 #[.agg #[.int .i64 n, .int .i64 d]] w fun e w' => e = .returned (.string (fracS n d)) ∧ Below w.heap.size w w' := by
  have s1 := itoaS_size h1 h2
  have s2 := itoaS_size h3 h4
  have HT := Lib.hid ht; clear ht
  by_cases hd : d = 1
  · have HF := Lib.hid (show fracS n d = itoaS n by unfold fracS; rw [if_pos hd])
    subst hd
    go_enter Tryd.func25, Tryd.ntmps25
    go_wp2_with fail
    have o := One.new w (.cells #[.int .i64 n, .int .i64 1] 23)
    generalize World.alloc w _ = W1 at o ⊢
    refine (lib_Itoa n _ h1 h2 (HT.out.below o.2)).mono ?_
    rintro e w2 ⟨rfl, hb⟩
    have o2 := o.step hb
    have x1 : w2.cell? ⟨w.heap.size, 1, none⟩ = some (.int .i64 1) := o2.1.cell 1
    have O2 := Lib.hid o2; clear o o2 hb
    go_wp2_with fail
    go_ret
    exact ⟨by rw [HF.out]; rfl, O2.out.2⟩
  · have HF := Lib.hid (show fracS n d = itoaS n ++ (slashS ++ itoaS d) by unfold fracS; rw [if_neg hd])
    have hdb : (d == 1) = false := by simpa using hd
    have hdb' : (d != 1) = true := by simpa using hd
    have a1 : ∀ W, (Op.stringOp .add ⟨#[47]⟩ (itoaS d)).run Tryd.prog W = .ok (.string (slashS ++ itoaS d)) W := fun W => run_string_add_sum W _ _ (by have : (⟨#[47]⟩ : ByteArray).size = 1 := rfl; omega)
    have a2 : ∀ W, (Op.stringOp .add (itoaS n) (slashS ++ itoaS d)).run Tryd.prog W = .ok (.string (itoaS n ++ (slashS ++ itoaS d))) W := fun W => run_string_add_sum W _ _ (by rw [app_size]; have : slashS.size = 1 := rfl; omega)
    clear hd
    go_enter Tryd.func25, Tryd.ntmps25
    go_wp2_with fail
    have o := One.new w (.cells #[.int .i64 n, .int .i64 d] 23)
    generalize World.alloc w _ = W1 at o ⊢
    refine (lib_Itoa n _ h1 h2 (HT.out.below o.2)).mono ?_
    rintro e w2 ⟨rfl, hb⟩
    have o2 := o.step hb
    have x1 : w2.cell? ⟨w.heap.size, 1, none⟩ = some (.int .i64 d) := o2.1.cell 1
    have O2 := Lib.hid o2; clear o o2 hb
    go_wp2_with fail
    refine (lib_Itoa d _ h3 h4 (HT.out.below O2.out.2)).mono ?_
    rintro e w3 ⟨rfl, hb⟩
    have O3 := Lib.hid (O2.out.step hb)
    clear hb
    go_wp2_with fail
    go_ret
    exact ⟨by rw [HF.out]; rfl, O3.out.2⟩
def fracTxt (n d : Int) : Value := if fracOk n d then .tuple #[.string (fracS n d), .int .i64 0] else .tuple #[.string ⟨#[]⟩, .int .i64 8]
set_option maxHeartbeats 4000000 in
theorem frac_Text (n d : Int) (w : World) (h1 : -9223372036854775808 ≤ n) (h2 : n ≤ 9223372036854775807) (h3 : -9223372036854775808 ≤ d) (h4 : d ≤ 9223372036854775807) (ht : Pow w) :
    Calls Tryd.prog 7 #[.agg #[.int .i64 n, .int .i64 d]] w fun e w' => e = .returned (fracTxt n d) ∧ Below w.heap.size w w' := by
  have HT := Lib.hid ht; clear ht
  have o := One.new w (.cells #[.int .i64 n, .int .i64 d] 23)
  rcases fracOk_cases n d with ⟨hk, _⟩ | ⟨hk, _⟩
  · have hfe : fracErr n d = 0 := by rw [fracErr, hk]; rfl
    have HR := Lib.hid (show fracTxt n d = .tuple #[.string (fracS n d), .int .i64 0] by unfold fracTxt; rw [hk]; rfl)
    clear hk
    go_enter Tryd.func7, Tryd.ntmps7
    go_wp2_with fail
    refine (frac_Check n d _ h1 h2 h3 h4).mono ?_
    rw [hfe]
    rintro e w2 ⟨rfl, hb⟩
    have o2 := o.step hb
    have x0 : w2.cell? ⟨w.heap.size, 0, none⟩ = some (.int .i64 n) := o2.1.cell 0
    have x1 : w2.cell? ⟨w.heap.size, 1, none⟩ = some (.int .i64 d) := o2.1.cell 1
    have O2 := Lib.hid o2; clear o o2 hb hfe
    go_wp2_with fail
    refine (frac_show n d _ h1 h2 h3 h4 (HT.out.below O2.out.2)).mono ?_
    rintro e w3 ⟨rfl, hb⟩
    have O3 := Lib.hid (O2.out.step hb)
    clear hb
    go_wp2_with fail
    go_ret2
    exact ⟨by rw [HR.out]; rfl, O3.out.2⟩
  · have hfe : fracErr n d = 8 := by rw [fracErr, hk]; rfl
    have HR := Lib.hid (show fracTxt n d = .tuple #[.string ⟨#[]⟩, .int .i64 8] by unfold fracTxt; rw [hk]; rfl)
    clear hk
    go_enter Tryd.func7, Tryd.ntmps7
    go_wp2_with fail
    refine (frac_Check n d _ h1 h2 h3 h4).mono ?_
    rw [hfe]
    rintro e w2 ⟨rfl, hb⟩
    have O2 := Lib.hid (o.step hb)
    clear o hb hfe
    go_wp2_with fail
    go_ret2
    exact ⟨by rw [HR.out]; rfl, O2.out.2⟩
set_option maxHeartbeats 4000000 in
theorem ref_FracText (n d : Int) (w : World) (h1 : -9223372036854775808 ≤ n) (h2 : n ≤ 9223372036854775807) (h3 : -9223372036854775808 ≤ d) (h4 : d ≤ 9223372036854775807) (ht : Pow w) :
    Calls Tryd.prog 9 #[.agg #[.int .i64 n, .int .i64 d]] w fun e w' => e = .returned (.string (fracS n d)) ∧ Below w.heap.size w w' := by
  have s1 := itoaS_size h1 h2
  have s2 := itoaS_size h3 h4
  have HT := Lib.hid ht; clear ht
  have o := One.new w (.cells #[.int .i64 n, .int .i64 d] 23)
  by_cases hd : d = 1
  · have HF := Lib.hid (show fracS n d = itoaS n by unfold fracS; rw [if_pos hd])
    subst hd
    go_enter Tryd.func9, Tryd.ntmps9
    go_wp2_with fail
    refine (lib_Itoa n _ h1 h2 (HT.out.below o.2)).mono ?_
    rintro e w2 ⟨rfl, hb⟩
    have O2 := Lib.hid (o.step hb); clear o hb
    go_wp2_with fail
    go_ret
    exact ⟨by rw [HF.out]; rfl, O2.out.2⟩
  · have HF := Lib.hid (show fracS n d = (itoaS n ++ slashS) ++ itoaS d by unfold fracS; rw [if_neg hd, ByteArray.append_assoc])
    have hdb : (d == 1) = false := by simpa using hd
    have hdb' : (d != 1) = true := by simpa using hd
    have a1 : ∀ W, (Op.stringOp .add (itoaS n) ⟨#[47]⟩).run Tryd.prog W = .ok (.string (itoaS n ++ slashS)) W := fun W => run_string_add_sum W _ _ (by have : (⟨#[47]⟩ : ByteArray).size = 1 := rfl; omega)
    have a2 : ∀ W, (Op.stringOp .add (itoaS n ++ slashS) (itoaS d)).run Tryd.prog W = .ok (.string ((itoaS n ++ slashS) ++ itoaS d)) W := fun W => run_string_add_sum W _ _ (by rw [app_size]; have : slashS.size = 1 := rfl; omega)
    clear hd
    have CN := Lib.hid (fun (W : World) (h : One w (.cells #[.int .i64 n, .int .i64 d] 23) W) => lib_Itoa n W h1 h2 (HT.out.below h.2))
    have CD := Lib.hid (fun (W : World) (h : One w (.cells #[.int .i64 n, .int .i64 d] 23) W) => lib_Itoa d W h3 h4 (HT.out.below h.2))
    go_enter Tryd.func9, Tryd.ntmps9
    go_wp2_with fail
    (refine region_class (One w (.cells #[.int .i64 n, .int .i64 d] 23)) (by kernel_rfl) (by kernel_rfl) (o.drew) ?_; repeat ((first | (refine class_take ?_ (by rfl) ?_ ?_; rotate_left; focus (intro wq hq; ((have x0 : wq.cell? ⟨w.heap.size, 0, none⟩ = some (.int .i64 n) := hq.1.cell 0; have x1 : wq.cell? ⟨w.heap.size, 1, none⟩ = some (.int .i64 d) := hq.1.cell 1)); go_simp; first | done | with_reducible rfl | ((go_at_call 29; (first | (with_reducible refine (CN.out _ hq).mono ?_) | (with_reducible refine (CD.out _ hq).mono ?_)); rintro e w' ⟨rfl, hb⟩; refine ⟨?_, hq.step hb⟩; with_reducible rfl)))) | refine class_skip (by rfl) ?_); try simp only [Act.put, List.setIfInBounds_toArray, List.set_cons_zero, List.set_cons_succ]))
    refine wpQuiet_nil ?_
    intro w4 h4'
    have O4 := Lib.hid h4'; clear h4'
    go_wp2_with fail
    go_ret
    exact ⟨by rw [HF.out]; rfl, O4.out.2⟩
end Go.Proofs.YtfbmlbenffkpfabDoor
