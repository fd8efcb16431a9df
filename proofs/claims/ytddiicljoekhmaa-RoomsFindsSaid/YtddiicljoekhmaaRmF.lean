/- The state of the laws on rooms: the rooms, and the plain list in its box. -/
import Derived.Test.YtddiicljoekhmaaRmE
namespace Go.Proofs.Ytddiicljoekhmaa
set_option linter.unusedVariables false
set_option linter.unusedSimpArgs false
set_option maxRecDepth 100000
open Go.RowKit

theorem own_blocks {W W' : World} {base : Nat} {e : TypeId} {size : Nat} {v : Value} {n : Nat} {xs : List Value} (h : W.ownsRow base e size v n xs) (hk : ∀ g, v.ownBlock = some g → W'.heap[g]? = W.heap[g]?) : W'.ownsRow base e size v n xs := by
  refine ⟨h.1, ?_⟩
  rcases h.2 with h0 | ⟨g, cap, cur, hv, hg, hat, rest⟩
  · exact .inl h0
  · exact .inr ⟨g, cap, cur, hv, hg, (hk g (by rw [hv]; rfl)).trans hat, rest⟩
theorem RoomsSt.of_blocks {W W' : World} {P gn gb cn base : Nat} {v1 v2 : Value} {xs1 xs2 : List Bkg} (h : RoomsSt W P gn gb cn base v1 v2 xs1 xs2) (hs : W.heap.size ≤ W'.heap.size)
    (hk : ∀ k, k < W.heap.size → (k < base ∨ v1.ownBlock = some k ∨ v2.ownBlock = some k) → W'.heap[k]? = W.heap[k]?) : RoomsSt W' P gn gb cn base v1 v2 xs1 xs2 := by
  obtain ⟨l1, l2, l3, l4, l5⟩ := h.low
  refine ⟨⟨(hk P (by omega) (.inl l1)).trans h.rooms.at_, Txts.kept h.rooms.names (hk gn (by omega) (.inl l2)) hs, (hk gb (by omega) (.inl l3)).trans h.rooms.rows⟩, ⟨l1, l2, l3, by omega, l5⟩,
    own_blocks h.own1 (fun g e => hk g (own_ltZ h.own1 e) (.inr (.inl e))), own_blocks h.own2 (fun g e => hk g (own_ltZ h.own2 e) (.inr (.inr e))), h.apart, h.ok1, h.ok2⟩
/-- The rooms and the plain list. -/
structure LawSt (W : World) (P gn gb cn base : Nat) (v1 v2 vb : Value) (B : Nat) (l xs1 xs2 : List Bkg) : Prop where
  st : RoomsSt W P gn gb cn base v1 v2 xs1 xs2
  own : W.ownsRow base 39 4 vb l.length (l.flatMap encBkg)
  box : At W B (.cells #[vb] 35)
  low : B < base ∧ B ≠ P ∧ B ≠ gn ∧ B ≠ gb
  ap1 : vb.ownBlock = none ∨ vb.ownBlock ≠ v1.ownBlock
  ap2 : vb.ownBlock = none ∨ vb.ownBlock ≠ v2.ownBlock
section
variable {W W' : World} {P gn gb cn base B : Nat} {v1 v2 vb : Value} {l xs1 xs2 : List Bkg}
theorem LawSt.then_ (h : LawSt W P gn gb cn base v1 v2 vb B l xs1 xs2) (hb : Below W.heap.size W W') : LawSt W' P gn gb cn base v1 v2 vb B l xs1 xs2 :=
  ⟨h.st.then_ hb, own_then4 h.own hb, h.box.then_ hb, h.low, h.ap1, h.ap2⟩
theorem LawSt.lt (h : LawSt W P gn gb cn base v1 v2 vb B l xs1 xs2) : B < W.heap.size := h.box.lt
/-- The rooms behind a call. -/
theorem LawSt.after {ys1 ys2 : List Bkg} {B0 : Nat} (h : LawSt W P gn gb cn base v1 v2 vb B l xs1 xs2) (ha : After W W' P gn gb cn base v1 v2 ys1 ys2) (hB : B0 ≤ gb) :
    ∃ v1' v2', LawSt W' P gn gb cn base v1' v2' vb B l ys1 ys2 ∧ Below B0 W W' ∧ ∀ T, T < W.heap.size → gb < T → (∀ g, v1.ownBlock = some g → g < T) → (∀ g, v2.ownBlock = some g → g < T) → W'.heap[T]? = W.heap[T]? := by
  obtain ⟨v1', v2', st', kept, n1, n2⟩ := ha
  obtain ⟨l1, l2, l3, l4, l5⟩ := h.st.low
  have far1 : ∀ g, v1.ownBlock = some g → base ≤ g := fun g e => own_far5 h.st.own1 e
  have far2 : ∀ g, v2.ownBlock = some g → base ≤ g := fun g e => own_far5 h.st.own2 e
  have farb : ∀ g, vb.ownBlock = some g → base ≤ g := fun g e => own_far5 h.own e
  have ltb : ∀ g, vb.ownBlock = some g → g < W.heap.size := fun g e => own_ltZ h.own e
  refine ⟨v1', v2', ⟨st', own_blocks h.own (fun g e => kept.block g (ltb g e) (by have := farb g e; omega) ?_ ?_), ?_, h.low, ?_, ?_⟩, kept.below (base := 0) (by omega) hB (fun g e => by have := far1 g e; omega) (fun g e => by have := far2 g e; omega), fun T hT hg g1 g2 => kept.block T hT (by omega) (fun e => by have := g1 T e.symm; omega) (fun e => by have := g2 T e.symm; omega)⟩
  · rcases h.ap1 with e1 | e1
    · rw [e1] at e; cases e
    · rw [← e]; exact e1
  · rcases h.ap2 with e1 | e1
    · rw [e1] at e; cases e
    · rw [← e]; exact e1
  · exact (kept.block B h.box.lt h.low.2.2.2 (fun e => by have := far1 B e.symm; have := h.low.1; omega) (fun e => by have := far2 B e.symm; have := h.low.1; omega)).trans h.box
  · rcases Option.eq_none_or_eq_some vb.ownBlock with e | ⟨g, e⟩
    · exact .inl e
    · refine .inr (fun e2 => ?_)
      rcases n1 g (e2.symm.trans e) with e3 | e3
      · rcases h.ap1 with e4 | e4
        · rw [e4] at e; cases e
        · exact e4 (e.trans e3.symm)
      · have := ltb g e; omega
  · rcases Option.eq_none_or_eq_some vb.ownBlock with e | ⟨g, e⟩
    · exact .inl e
    · refine .inr (fun e2 => ?_)
      rcases n2 g (e2.symm.trans e) with e3 | e3
      · rcases h.ap2 with e4 | e4
        · rw [e4] at e; cases e
        · exact e4 (e.trans e3.symm)
      · have := ltb g e; omega
/-- The plain list is another one. -/
theorem LawSt.put {w4 : World} {u : Value} {L' : List Bkg} {B0 : Nat} (h : LawSt W P gn gb cn base v1 v2 vb B l xs1 xs2) (hg : W.grownBy w4 vb.ownBlock) (hown : w4.ownsRow base 39 4 u L'.length (L'.flatMap encBkg))
    (hnew : ∀ g, u.ownBlock = some g → vb.ownBlock = some g ∨ W.heap.size ≤ g) (hB : B0 ≤ B) (hB2 : B0 ≤ W.heap.size) :
    LawSt (w4.setCell ⟨B, 0, none⟩ u) P gn gb cn base v1 v2 u B L' xs1 xs2 ∧ Below B0 W (w4.setCell ⟨B, 0, none⟩ u) ∧ ∀ T, T < W.heap.size → B < T → (∀ g, vb.ownBlock = some g → g < T) → (w4.setCell ⟨B, 0, none⟩ u).heap[T]? = W.heap[T]? := by
  obtain ⟨l1, l2, l3, l4, l5⟩ := h.st.low
  have farb : ∀ g, vb.ownBlock = some g → base ≤ g := fun g e => own_far5 h.own e
  have hgs := hg.size
  have hss : (w4.setCell ⟨B, 0, none⟩ u).heap.size = w4.heap.size := by simp
  have hset : ∀ j, j ≠ B → (w4.setCell ⟨B, 0, none⟩ u).heap[j]? = w4.heap[j]? := fun j hj => Below.heap_setCell w4 ⟨B, 0, none⟩ u j hj
  have hBb : some B ≠ vb.ownBlock := fun e => by have := farb B e.symm; have := h.low.1; omega
  have hblk : ∀ k, k < W.heap.size → k ≠ B → some k ≠ vb.ownBlock → (w4.setCell ⟨B, 0, none⟩ u).heap[k]? = W.heap[k]? := fun k hk h1 h2 => (hset k h1).trans (hg.block k hk h2)
  have lt1 : ∀ g, v1.ownBlock = some g → base ≤ g := fun g e => own_far5 h.st.own1 e
  have lt2 : ∀ g, v2.ownBlock = some g → base ≤ g := fun g e => own_far5 h.st.own2 e
  have hlow := h.low.1
  have hP : (w4.setCell ⟨B, 0, none⟩ u).heap[P]? = W.heap[P]? := hblk P (by omega) (fun e => h.low.2.1 e.symm) (fun e => by have := farb P e.symm; omega)
  have hN : (w4.setCell ⟨B, 0, none⟩ u).heap[gn]? = W.heap[gn]? := hblk gn (by omega) (fun e => h.low.2.2.1 e.symm) (fun e => by have := farb gn e.symm; omega)
  have hG : (w4.setCell ⟨B, 0, none⟩ u).heap[gb]? = W.heap[gb]? := hblk gb (by omega) (fun e => h.low.2.2.2 e.symm) (fun e => by have := farb gb e.symm; omega)
  have hv1 : ∀ g, v1.ownBlock = some g → (w4.setCell ⟨B, 0, none⟩ u).heap[g]? = W.heap[g]? := fun g e => hblk g (own_ltZ h.st.own1 e) (by have := lt1 g e; omega) (fun e2 => by
    rcases h.ap1 with e3 | e3
    · rw [e3] at e2; cases e2
    · exact e3 (e2.symm.trans e.symm))
  have hv2 : ∀ g, v2.ownBlock = some g → (w4.setCell ⟨B, 0, none⟩ u).heap[g]? = W.heap[g]? := fun g e => hblk g (own_ltZ h.st.own2 e) (by have := lt2 g e; omega) (fun e2 => by
    rcases h.ap2 with e3 | e3
    · rw [e3] at e2; cases e2
    · exact e3 (e2.symm.trans e.symm))
  refine ⟨⟨⟨⟨hP.trans h.st.rooms.at_, Txts.kept h.st.rooms.names hN (by omega), hG.trans h.st.rooms.rows⟩, ⟨l1, l2, l3, by omega, l5⟩, own_blocks h.st.own1 hv1, own_blocks h.st.own2 hv2, h.st.apart, h.st.ok1, h.st.ok2⟩, own_setZ hown (p := ⟨B, 0, none⟩) hlow u, ?_, h.low, ?_, ?_⟩, ?_, fun T hT hBT g1 => hblk T hT (by omega) (fun e => by have := g1 T e.symm; omega)⟩
  · have := At.store ((hg.block B h.box.lt hBb).trans h.box : At w4 B _) 0 u
    simpa using this
  · rcases Option.eq_none_or_eq_some u.ownBlock with e | ⟨g, e⟩
    · exact .inl e
    · refine .inr (fun e2 => ?_)
      rw [e] at e2
      have hlt := own_ltZ h.st.own1 e2.symm
      rcases hnew g e with e3 | e3
      · rcases h.ap1 with e4 | e4
        · rw [e4] at e3; cases e3
        · exact e4 (e3.trans e2)
      · omega
  · rcases Option.eq_none_or_eq_some u.ownBlock with e | ⟨g, e⟩
    · exact .inl e
    · refine .inr (fun e2 => ?_)
      rw [e] at e2
      have hlt := own_ltZ h.st.own2 e2.symm
      rcases hnew g e with e3 | e3
      · rcases h.ap2 with e4 | e4
        · rw [e4] at e3; cases e3
        · exact e4 (e3.trans e2)
      · omega
  · have hb4 : Below B0 W w4 := (Below.refl B0 W).grown hg hB2 (fun g e => by have := farb g e; omega)
    exact below_set hb4 (p := ⟨B, 0, none⟩) hB u
theorem LawSt.lt1 (h : LawSt W P gn gb cn base v1 v2 vb B l xs1 xs2) : (∀ g, v1.ownBlock = some g → g < W.heap.size) ∧ (∀ g, v2.ownBlock = some g → g < W.heap.size) ∧ (∀ g, vb.ownBlock = some g → g < W.heap.size) :=
  ⟨fun g e => own_ltZ h.st.own1 e, fun g e => own_ltZ h.st.own2 e, fun g e => own_ltZ h.own e⟩
theorem LawSt.ltg (h : LawSt W P gn gb cn base v1 v2 vb B l xs1 xs2) : gb < W.heap.size ∧ B < W.heap.size ∧ base ≤ W.heap.size := ⟨h.st.rooms.rows.lt, h.box.lt, h.st.low.2.2.2.1⟩
/-- Behind New and the box of the plain list. -/
theorem LawSt.new {w w2 : World} (h : RoomsSt w2 P gn gb cn w2.heap.size (.slice none 0 0) (.slice none 0 0) [] []) :
    LawSt (w2.alloc (.cells #[.slice none 0 0] 35)) P gn gb cn (w2.heap.size + 1) (.slice none 0 0) (.slice none 0 0) (.slice none 0 0) w2.heap.size [] [] [] := by
  have hb : Below w2.heap.size w2 (w2.alloc (.cells #[.slice none 0 0] 35)) := below_new (Below.refl _ _) _
  obtain ⟨l1, l2, l3, l4, l5⟩ := h.low
  refine ⟨⟨h.rooms.then_ hb, ⟨by omega, by omega, by omega, by simp, l5⟩, World.ownsRow_nil _ _ _ _, World.ownsRow_nil _ _ _ _, .inl rfl, by simp, by simp⟩, World.ownsRow_nil _ _ _ _, At.new w2 _, ⟨by omega, by omega, by omega, by omega⟩, .inl rfl, .inl rfl⟩
theorem free_err {r : ByteArray} {f t k : Int} {l xs1 xs2 : List Bkg} (h : freeE r f t = k) (hk : k ≠ 0) : (decide (freeE r f t = 0) && !(rowOf r xs1 xs2).any (lapB f t)) = false := by
  rw [h, decide_eq_false hk]; rfl
theorem free_ok {r : ByteArray} {f t : Int} {l xs1 xs2 : List Bkg} (hp : PlainOk l xs1 xs2) (hr : 0 ≤ roomNo r) (h : freeE r f t = 0) : (decide (freeE r f t = 0) && !(rowOf r xs1 xs2).any (lapB f t)) = !l.any (lapR r f t) := by
  rw [h, row_of hp hr, ← lap_of]; rfl
theorem LawSt.list (h : LawSt W P gn gb cn base v1 v2 vb B l xs1 xs2) (hok : ∀ y ∈ l, okBkg y) : ∃ a c, vb = .slice a l.length c ∧ l.length ≤ c ∧ c ≤ 9223372036854775807 ∧ Bkgs W W.heap.size a l.length l := own_bkgs h.own rfl hok
end
end Go.Proofs.Ytddiicljoekhmaa
