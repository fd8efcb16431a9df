/- CycleChecks: the Go text returns true at every input, and writes nothing that was there. -/
import Derived.Test.YtofmjjonobhfgaaCycle
import Derived.Test.YtofmjjonobhfgaaMem2
namespace Go.Proofs.Ytofmjjonobhfgaa.cycleChecksLaw
set_option linter.unusedVariables false
open Go.RowKit Go.ChangeShapes Go.WideShapes Go.Joins

theorem lit : setErr [5] [5] = 3 := by decide
theorem core (w : World) (a1 a2 : Option Addr) (n1 c1 n2 c2 : Nat) (xs ys : List Int) (h1 : Ints w w.heap.size a1 n1 xs) (h2 : Ints w w.heap.size a2 n2 ys) :
    Calls Try.prog 4 #[.agg #[.slice a1 n1 c1, .slice a2 n2 c2]] w fun e w' => e = .returned (.bool true) ∧ Below w.heap.size w w' := by
  have H1 := Lib.hid h1; have H2 := Lib.hid h2; clear h1 h2
  have k1 : ∀ (o o1 o2 : Obj), o1 = .cells #[.int .i64 5] 3 → Ints (((w.alloc o).alloc o1).alloc o2) (((w.alloc o).alloc o1).alloc o2).heap.size (some ⟨w.heap.size + 1, 0, none⟩) 1 [5] :=
    fun o o1 o2 h => At.ints [5] ((At.new1 w o o1).alloc o2 |> fun x => by subst h; exact x) (by unfold I64; simp) (by simp)
  have k2 : ∀ (o o1 o2 : Obj), o2 = .cells #[.int .i64 5] 3 → Ints (((w.alloc o).alloc o1).alloc o2) (((w.alloc o).alloc o1).alloc o2).heap.size (some ⟨w.heap.size + 1 + 1, 0, none⟩) 1 [5] :=
    fun o o1 o2 h => At.ints [5] ((At.new2 w o o1 o2) |> fun x => by subst h; exact x) (by unfold I64; simp) (by simp)
  have K1 := Lib.hid k1; have K2 := Lib.hid k2; clear k1 k2
  go_enter Try.func4, Try.ntmps4
  go_wp2_with fail
  refine (cycle_Check _ _ _ _ _ _ _ [5] [5] (K1.out _ _ _ rfl) (K2.out _ _ _ rfl)).mono ?_
  rw [lit]
  rintro e w1 ⟨rfl, hb⟩
  have hs : w.heap.size + 3 ≤ w1.heap.size := by have := hb.size; simp at this; omega
  have b0 : Below w.heap.size w w1 := ((((Below.refl _ _).alloc (Nat.le_refl _) _).alloc (by simp) _).alloc (by simp; omega) _).trans (hb.mono (by simp; omega))
  have hat : At w1 w.heap.size (.cells #[.slice a1 n1 c1, .slice a2 n2 c2] 25) := (((At.new w _).alloc _).alloc _).below hb (by simp; omega)
  have d0 := hat.cell 0
  have d1 := hat.cell 1
  simp at d0 d1
  have B0 := Lib.hid b0
  clear hb b0 hat
  go_wp2_with fail
  go_region_held3 (fun w' => w'.cell? ⟨w.heap.size, 0, none⟩ = some (.slice a1 n1 c1) ∧ w'.cell? ⟨w.heap.size, 1, none⟩ = some (.slice a2 n2 c2) ∧ Below w1.heap.size w1 w')
    (first | exact ⟨d0, d1, (Below.refl _ _).drew⟩ | exact keep2 (by assumption) (by assumption) (by omega))
    (first | (go_at_call 15; refine (cycle_Check _ _ _ _ _ _ _ xs ys ?_ ?_).mono ?_; (exact H1.out.far B0.out (And.right (And.right (by assumption)))); (exact H2.out.far B0.out (And.right (And.right (by assumption)))); rintro e w' ⟨rfl, hb⟩) | (go_at_call 16; refine (ref_SetError _ _ _ _ _ _ _ xs ys ?_ ?_).mono ?_; (exact H1.out.far B0.out (And.right (And.right (by assumption)))); (exact H2.out.far B0.out (And.right (And.right (by assumption)))); rintro e w' ⟨rfl, hb⟩))
  have hk2 := (show _ ∧ _ ∧ Below w1.heap.size w1 w' from by assumption).2.2
  have HK := Lib.hid hk2; clear hk2
  go_wp2_with fail
  go_ret
  exact ⟨rfl, B0.out.trans (HK.out.mono B0.out.size)⟩
theorem walk {H : Type} {enc : TypeId × Value → H} {v0 : Value} {d0 : DataW H} {p0 : List MemPlace} {base : Nat} (W : World)
    (o0 : Value.okWide Try.prog W .any base 25 v0) (h0 : DataW.Trod enc Try.prog W 0 (fun _ => true) true 25 v0 d0 p0) :
    Calls Try.prog 4 #[v0] W fun e w' => e = .returned (.bool true) ∧ Below W.heap.size W w' := by
  obtain ⟨u0, u1, y0, y1, n, rfl, -, -, t0, t1⟩ := open_agg2 Try.underlying25 (by kernel_rfl) (by kernel_rfl) o0 h0
  obtain ⟨a1, n1, c1, xs, rfl, h1⟩ := open_Ints t0
  obtain ⟨a2, n2, c2, ys, rfl, h2⟩ := open_Ints t1
  exact core W a1 a2 n1 c1 n2 c2 xs ys h1 h2
end Go.Proofs.Ytofmjjonobhfgaa.cycleChecksLaw
