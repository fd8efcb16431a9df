/- Boxes of strings; lines that read alike; sizes of pages. -/
import Derived.Test.YthpiiocncdpimaaDoorPly8
namespace Go.Proofs.YthpiiocncdpimaaDoor
set_option linter.unusedVariables false
set_option linter.unusedSimpArgs false
set_option maxRecDepth 100000
open Go.RowKit Go.Shelf

/-- A box of n strings of the call's own. -/
def SB (W : World) (b n : Nat) (l : Nat → ByteArray) : Prop := ∃ cs : Array Value, At W b (.cells cs 9) ∧ cs.size = n ∧ ∀ i, i < n → cs[i]? = some (.string (l i))
section
variable {W W' : World} {b n : Nat} {l : Nat → ByteArray}
theorem SB.lt (h : SB W b n l) : b < W.heap.size := by obtain ⟨cs, h1, _⟩ := h; exact h1.lt
theorem SB.then_ (h : SB W b n l) (k : Below W.heap.size W W') : SB W' b n l := by obtain ⟨cs, h1, h2⟩ := h; exact ⟨cs, h1.then_ k, h2⟩
theorem SB.cell (h : SB W b n l) {i : Nat} (hi : i < n) : W.cell? ⟨b, i, none⟩ = some (.string (l i)) := by obtain ⟨cs, h1, h2, h3⟩ := h; rw [h1.cell i]; exact h3 i hi
theorem SB.frozen (h : SB W b n l) (i : Nat) : W.frozen? ⟨b, i, none⟩ = false := by obtain ⟨cs, h1, _⟩ := h; exact h1.frozen i
theorem SB.store (h : SB W b n l) {i : Nat} (hi : i < n) (x : ByteArray) : SB (W.setCell ⟨b, i, none⟩ (.string x)) b n (fun k => if k = i then x else l k) := by
  obtain ⟨cs, h1, h2, h3⟩ := h
  refine ⟨_, h1.store i _, by simpa using h2, fun k hk => ?_⟩
  rw [Array.getElem?_setIfInBounds]
  by_cases hki : i = k
  · subst hki; rw [if_pos rfl, if_pos (by omega)]; simp
  · rw [if_neg hki]; simp only [if_neg (fun e : k = i => hki e.symm)]; exact h3 k hk
theorem SB.ext (h : SB W b n l) {l' : Nat → ByteArray} (e : ∀ i, i < n → l' i = l i) : SB W b n l' := by obtain ⟨cs, h1, h2, h3⟩ := h; exact ⟨cs, h1, h2, fun i hi => by rw [e i hi]; exact h3 i hi⟩
theorem SB.strs (h : SB W b n l) (hn : n ≤ 1000000) (hl : ∀ i, i < n → (l i).size ≤ 1000000) : Strs W W.heap.size (some ⟨b, 0, none⟩) n ((List.range n).map l) := by
  refine ⟨by simp, by omega, fun x hx => ?_, fun _ => ⟨b, 0, rfl, h.lt, fun i hi => ?_⟩⟩
  · simp at hx
    obtain ⟨a, ha, rfl⟩ := hx
    have := hl a ha; omega
  · rw [Nat.zero_add, h.cell hi]; simp [List.getD_eq_getElem?_getD, hi]
end
theorem make_strs (n : Nat) (hn : n ≤ 1000) (W : World) : (Instr.makeSlice 22 (.int .i64 (n : Int)) (.int .i64 (n : Int))).run Tryd.prog W = .ok (.slice (some ⟨W.heap.size, 0, none⟩) n n) (W.alloc (.cells (madeCells (Value.string ⟨#[]⟩).cells n) 9)) := by
  obtain ⟨i0, hi, hz0, hz1, hz2⟩ := info_parts infoStr
  have := run_makeSlice W 22 9 i0 (.string ⟨#[]⟩) Tryd.underlying22 hi hz0 .i64 .i64 (n : Int) (n : Int) (by omega) (by omega) (by rw [hz1]; simp; omega) (by rw [hz2]; omega) (by omega)
  rw [hz1, Nat.mul_one] at this
  simpa using this
theorem made_str (n i : Nat) (h : i < n) : (madeCells (Value.string ⟨#[]⟩).cells n)[i]? = some (.string ⟨#[]⟩) := by
  unfold madeCells
  rw [Array.getElem?_map, Array.getElem?_range, if_pos h]
  show some ((#[Value.string ⟨#[]⟩] : Array Value)[i % 1]!) = _
  rw [Nat.mod_one]; rfl
theorem sb_made (W : World) (n : Nat) : SB (W.alloc (.cells (madeCells (Value.string ⟨#[]⟩).cells n) 9)) W.heap.size n (fun _ => ⟨#[]⟩) := ⟨_, At.new W _, size_madeCells _ _, fun i hi => made_str n i hi⟩
theorem lineP_congr (Ws : List Nat) {T T' : Nat → ByteArray} : ∀ (cs : List Nat) (f : Bool), (∀ c ∈ cs, T c = T' c) → lineP Ws T f cs = lineP Ws T' f cs
  | [], f, _ => by rw [lineP, lineP]
  | c :: r, f, h => by
    rw [lineP_cons, lineP_cons, h c (by simp), lineP_congr Ws r false fun x hx => h x (by simp [hx])]
theorem txtO_congr (Ws : List Nat) {T T' : Nat → ByteArray} {cs : List Nat} (h : ∀ c ∈ cs, T c = T' c) : txtO Ws T cs = txtO Ws T' cs := by unfold txtO; rw [lineP_congr Ws cs true h]
end Go.Proofs.YthpiiocncdpimaaDoor
