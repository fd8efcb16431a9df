/- rooms: Drop. -/
import Derived.Test.YtddiicljoekhmaaRm4
import Derived.Test.YtddiicljoekhmaaStore
import Derived.Deep.RegionHeld3
namespace Go.Proofs.Ytddiicljoekhmaa
set_option linter.unusedVariables false
set_option maxRecDepth 100000
open Go.RowKit

theorem bkg_take : ∀ (ms : List Bkg) (i : Nat), (ms.flatMap encBkg).take (i * 4) = (ms.take i).flatMap encBkg
  | [], i => by simp
  | x :: r, 0 => by simp
  | x :: r, i + 1 => by
    have hl : (encBkg x).length = 4 := rfl
    rw [List.flatMap_cons, show (i + 1) * 4 = (encBkg x).length + i * 4 by omega, List.take_length_add_append, bkg_take r i, List.take_succ_cons, List.flatMap_cons]
theorem bkg_drop : ∀ (ms : List Bkg) (i : Nat), (ms.flatMap encBkg).drop (i * 4) = (ms.drop i).flatMap encBkg
  | [], i => by simp
  | x :: r, 0 => by simp
  | x :: r, i + 1 => by
    have hl : (encBkg x).length = 4 := rfl
    rw [List.flatMap_cons, show (i + 1) * 4 = (encBkg x).length + i * 4 by omega, List.drop_length_add_append, bkg_drop r i, List.drop_succ_cons]
theorem Txts.kept {W W' : World} {g : Nat} {n : Nat} {xs : List ByteArray} (h : Txts W W.heap.size (some ⟨g, 0, none⟩) n xs) (hg : W'.heap[g]? = W.heap[g]?) (hs : W.heap.size ≤ W'.heap.size) : Txts W' W'.heap.size (some ⟨g, 0, none⟩) n xs := by
  refine ⟨h.1, h.2.1, fun hn => ?_⟩
  obtain ⟨b, off, e, hb, hc⟩ := h.2.2 hn
  obtain ⟨rfl, rfl⟩ : g = b ∧ 0 = off := by injection e with e; injection e with e1 e2; exact ⟨e1, e2⟩
  exact ⟨g, 0, rfl, by omega, fun i x hx j v hv => (World.cell?_of_block (a := ⟨g, 0 + i * 1 + j, none⟩) hg).trans (hc i x hx j v hv)⟩
/-- What a call on the rooms leaves as it was: every old block but the pair of rows and the two rows. -/
structure KeptR (w w' : World) (gb : Nat) (v1 v2 : Value) : Prop where
  os : w'.os = w.os
  tape : w'.tape = w.tape
  output : w'.output = w.output
  size : w.heap.size ≤ w'.heap.size
  block : ∀ k, k < w.heap.size → k ≠ gb → some k ≠ v1.ownBlock → some k ≠ v2.ownBlock → w'.heap[k]? = w.heap[k]?
theorem KeptR.of_below {w w' : World} {gb : Nat} {v1 v2 : Value} (h : Below w.heap.size w w') : KeptR w w' gb v1 v2 := ⟨h.os, h.tape, h.output, h.size, fun k hk _ _ _ => h.block k hk⟩
theorem KeptR.below {w w' : World} {gb base : Nat} {v1 v2 : Value} (h : KeptR w w' gb v1 v2) {B : Nat} (hB : B ≤ w.heap.size) (hg : B ≤ gb) (h1 : ∀ g, v1.ownBlock = some g → B ≤ g) (h2 : ∀ g, v2.ownBlock = some g → B ≤ g) : Below B w w' :=
  ⟨h.os, h.tape, h.output, h.size, fun k hk => h.block k (by omega) (by omega) (fun e => by have := h1 k e.symm; omega) (fun e => by have := h2 k e.symm; omega)⟩
def NewV (w : World) (v v' : Value) : Prop := ∀ g, v'.ownBlock = some g → v.ownBlock = some g ∨ w.heap.size ≤ g
/-- The rooms behind a call. -/
def After (w w' : World) (P gn gb cn base : Nat) (v1 v2 : Value) (xs1 xs2 : List Bkg) : Prop :=
  ∃ v1' v2', RoomsSt w' P gn gb cn base v1' v2' xs1 xs2 ∧ KeptR w w' gb v1 v2 ∧ NewV w v1 v1' ∧ NewV w v2 v2'
theorem After.of_below {w w' : World} {P gn gb cn base : Nat} {v1 v2 : Value} {xs1 xs2 : List Bkg} (h : RoomsSt w P gn gb cn base v1 v2 xs1 xs2) (hb : Below w.heap.size w w') : After w w' P gn gb cn base v1 v2 xs1 xs2 :=
  ⟨v1, v2, h.then_ hb, .of_below hb, fun _ h => .inl h, fun _ h => .inl h⟩
theorem own_setZ {w : World} {base : Nat} {e : TypeId} {size : Nat} {v : Value} {n : Nat} {xs : List Value} (h : w.ownsRow base e size v n xs) {p : Addr} (hp : p.block < base) (u : Value) : (w.setCell p u).ownsRow base e size v n xs := by
  refine ⟨h.1, ?_⟩
  rcases h.2 with h0 | ⟨g, cap, cur, hv, hg, hat, rest⟩
  · exact .inl h0
  · exact .inr ⟨g, cap, cur, hv, hg, (Below.heap_setCell w p u g (by omega)).trans hat, rest⟩
theorem own_ltZ {w : World} {base : Nat} {e : TypeId} {size : Nat} {v : Value} {n : Nat} {xs : List Value} (h : w.ownsRow base e size v n xs) {b : Nat} (hb : v.ownBlock = some b) : b < w.heap.size := by
  rcases h.2 with ⟨rfl, _⟩ | ⟨g, cap, cur, rfl, hg, hat, _⟩
  · simp [Value.ownBlock] at hb
  · have := (show At w g (.cells cur e) from hat).lt
    simp [Value.ownBlock] at hb; omega
def dropE (s : ByteArray) (f : Int) (xs1 xs2 : List Bkg) : Int := if roomNo s < 0 then 5 else if idxP (atB f) (rowOf s xs1 xs2) 0 < 0 then 6 else 0
def delB (f : Int) (xs : List Bkg) : List Bkg := xs.take (idxP (atB f) xs 0).toNat ++ xs.drop ((idxP (atB f) xs 0).toNat + 1)
def drop1 (s : ByteArray) (f : Int) (xs1 xs2 : List Bkg) : List Bkg := if dropE s f xs1 xs2 = 0 ∧ roomNo s = 0 then delB f xs1 else xs1
def drop2 (s : ByteArray) (f : Int) (xs1 xs2 : List Bkg) : List Bkg := if dropE s f xs1 xs2 = 0 ∧ roomNo s = 1 then delB f xs2 else xs2
theorem idxP_bounds (p : Bkg → Bool) : ∀ (l : List Bkg) (k : Nat), idxP p l k = -1 ∨ ((k : Int) ≤ idxP p l k ∧ idxP p l k < ((k + l.length : Nat) : Int))
  | [], k => .inl rfl
  | x :: r, k => by
    rw [idxP_cons]
    split
    · right; simp; omega
    · rcases idxP_bounds p r (k + 1) with h | ⟨h1, h2⟩
      · exact .inl h
      · right; simp at h2 ⊢; omega
theorem After.step {w w2 w4 : World} {P gn gb cn base : Nat} {v1 v2 : Value} {xs1 xs2 : List Bkg} (h : RoomsSt w P gn gb cn base v1 v2 xs1 xs2) (hb : Below w.heap.size w w2) (k : Nat) (hk : k < 2) (u : Value) (L' : List Bkg)
    (hg : w2.grownBy w4 (rowV k v1 v2).ownBlock) (hown : w4.ownsRow base 39 4 u L'.length (L'.flatMap encBkg)) (hnew : ∀ g, u.ownBlock = some g → (rowV k v1 v2).ownBlock = some g ∨ w2.heap.size ≤ g) (hok : ∀ x ∈ L', okBkg x) :
    After w (w4.setCell ⟨gb, k, none⟩ u) P gn gb cn base v1 v2 (if k = 0 then L' else xs1) (if k = 0 then xs2 else L') := by
  obtain ⟨l1, l2, l3, l4, l5⟩ := h.low
  have hs := hb.size
  have h2 := h.then_ hb
  have lt2 : ∀ g, (rowV k v1 v2).ownBlock = some g → base ≤ g := fun g e => by
    match k, hk with
    | 0, _ => exact own_far5 h.own1 e
    | 1, _ => exact own_far5 h.own2 e
  have hPn : some P ≠ (rowV k v1 v2).ownBlock := fun e => by have := lt2 P e.symm; omega
  have hGn : some gn ≠ (rowV k v1 v2).ownBlock := fun e => by have := lt2 gn e.symm; omega
  have hBn : some gb ≠ (rowV k v1 v2).ownBlock := fun e => by have := lt2 gb e.symm; omega
  have hP2 := h2.rooms.at_.lt; have hB2 := h2.rooms.rows.lt
  have hgn2 : gn < w2.heap.size := by omega
  have aP : At (w4.setCell ⟨gb, k, none⟩ u) P _ := At.apart ((hg.block P hP2 hPn).trans h2.rooms.at_) (p := ⟨gb, k, none⟩) l5 u
  have aB := At.store ((hg.block gb hB2 hBn).trans h2.rooms.rows : At w4 gb _) k u
  have hgs := hg.size
  have hset : ∀ j, j ≠ gb → (w4.setCell ⟨gb, k, none⟩ u).heap[j]? = w4.heap[j]? := fun j hj => Below.heap_setCell w4 ⟨gb, k, none⟩ u j hj
  have hss : (w4.setCell ⟨gb, k, none⟩ u).heap.size = w4.heap.size := by simp
  have hKeep : KeptR w (w4.setCell ⟨gb, k, none⟩ u) gb v1 v2 := by
    refine ⟨?_, ?_, ?_, by omega, fun j hj hjg j1 j2 => ?_⟩
    · exact (show (w4.setCell ⟨gb, k, none⟩ u).os = w4.os from (below_set (Below.refl 0 w4) (Nat.zero_le _) u).os).trans (hg.os.trans hb.os)
    · exact (show (w4.setCell ⟨gb, k, none⟩ u).tape = w4.tape from (below_set (Below.refl 0 w4) (Nat.zero_le _) u).tape).trans (hg.tape.trans hb.tape)
    · exact (show (w4.setCell ⟨gb, k, none⟩ u).output = w4.output from (below_set (Below.refl 0 w4) (Nat.zero_le _) u).output).trans (hg.output.trans hb.output)
    · rw [hset j hjg, hg.block j (by omega) (by
        match k, hk with
        | 0, _ => exact j1
        | 1, _ => exact j2)]
      exact hb.block j hj
  have hnm : Txts (w4.setCell ⟨gb, k, none⟩ u) (w4.setCell ⟨gb, k, none⟩ u).heap.size (some ⟨gn, 0, none⟩) 2 [one3, two3] :=
    Txts.kept h2.rooms.names (by
      by_cases hgg : gn = gb
      · subst hgg
        exfalso
        obtain ⟨b, off, s, e, _, hc, _⟩ := txts_at h2.rooms.names (k := 0) (by omega)
        obtain ⟨rfl, rfl⟩ : gn = b ∧ 0 = off := by injection e with e; injection e with e1 e2; exact ⟨e1, e2⟩
        rw [h2.rooms.rows.cell] at hc
        have hv1 : v1 = .string s := by simpa using hc
        rcases h2.own1.2 with ⟨e, _⟩ | ⟨_, _, _, e, _⟩ <;> rw [hv1] at e <;> cases e
      · rw [hset gn hgg, hg.block gn hgn2 hGn]) (by omega)
  have own' := own_setZ hown (p := ⟨gb, k, none⟩) (by simp only; omega) u
  match k, hk with
  | 0, _ =>
    have o2 := own_setZ (h2.own2.kept hg (by
      rcases h.apart with e | e
      · rcases Option.eq_none_or_eq_some v2.ownBlock with e2 | ⟨g, e2⟩
        · exact .inl e2
        · exact .inr (by show v2.ownBlock ≠ v1.ownBlock; rw [e, e2]; simp)
      · exact .inr (fun e3 => e e3.symm))) (p := ⟨gb, 0, none⟩) (by simp only; omega) u
    refine ⟨u, v2, ⟨⟨aP, hnm, by simpa using aB⟩, ⟨l1, l2, l3, by omega, l5⟩, own', o2, ?_, hok, h.ok2⟩, hKeep, fun g e => (hnew g e).imp id (fun hh => by omega), fun _ e => .inl e⟩
    rcases Option.eq_none_or_eq_some u.ownBlock with e | ⟨g, e⟩
    · exact .inl e
    · refine .inr (fun e2 => ?_)
      rw [e] at e2
      rcases hnew g e with e3 | e3
      · rcases h.apart with e4 | e4
        · have : v1.ownBlock = some g := e3
          rw [e4] at this; cases this
        · exact e4 ((show v1.ownBlock = some g from e3).trans e2)
      · have := own_ltZ h2.own2 e2.symm; omega
  | 1, _ =>
    have o1 := own_setZ (h2.own1.kept hg (by
      rcases h.apart with e | e
      · exact .inl e
      · exact .inr e)) (p := ⟨gb, 1, none⟩) (by simp only; omega) u
    refine ⟨v1, u, ⟨⟨aP, hnm, by simpa using aB⟩, ⟨l1, l2, l3, by omega, l5⟩, o1, own', ?_, h.ok1, hok⟩, hKeep, fun _ e => .inl e, fun g e => (hnew g e).imp id (fun hh => by omega)⟩
    rcases Option.eq_none_or_eq_some v1.ownBlock with e3 | ⟨g, e3⟩
    · exact .inl e3
    · refine .inr (fun e2 => ?_)
      rcases hnew g (e2.symm.trans e3) with e4 | e4
      · rcases h.apart with e | e
        · rw [e3] at e; cases e
        · exact e (e3.trans (show v2.ownBlock = some g from e4).symm)
      · have := own_ltZ h2.own1 e3; omega
end Go.Proofs.Ytddiicljoekhmaa
