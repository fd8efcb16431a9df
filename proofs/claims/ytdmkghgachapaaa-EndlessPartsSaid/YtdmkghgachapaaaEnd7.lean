/- Sequences of a short list, taken in parts: what the law's calls hand back. -/
import Derived.Test.YtdmkghgachapaaaEnd5
import Derived.Test.YtdmkghgachapaaaEnd6
import Derived.Test.YtdmkghgachapaaaOwn
namespace Go.Proofs.Ytdmkghgachapaaa
set_option linter.unusedVariables false
set_option linter.unusedSimpArgs false
set_option maxRecDepth 100000
open Go.RowKit Go.Shelf

/-- The law's state: the list ys, the variable U that counts. -/
structure LS (W0 : World) (U : Nat) (a : Option Addr) (m : Nat) (ys : List Int) (u : Int) (V : World) : Prop where
  bel : Below W0.heap.size W0 V
  box : Boxed V U 3 (.int .i64 u)
  ints : Ints V V.heap.size a m ys
  low : W0.heap.size ≤ U
  apart : ∀ g off sp, a = some ⟨g, off, sp⟩ → g ≠ U
  few : m ≤ 12
theorem LS.then_ {W0 V V' : World} {U : Nat} {a : Option Addr} {m : Nat} {ys : List Int} {u : Int} (h : LS W0 U a m ys u V) (hb : Below V.heap.size V V') : LS W0 U a m ys u V' :=
  ⟨below_then h.bel hb, (hb.block U h.box.lt).trans h.box, (h.ints.below hb (Nat.le_refl _)).more hb.size, h.low, h.apart, h.few⟩
theorem ints_less {V V' : World} {U : Nat} {a : Option Addr} {m : Nat} {ys : List Int} (h : Ints V V.heap.size a m ys) (hl : Less U V.heap.size V V') (ha : ∀ g off sp, a = some ⟨g, off, sp⟩ → g ≠ U) : Ints V' V'.heap.size a m ys :=
  ⟨h.1, h.2.1, h.2.2.1, fun hn => by
    obtain ⟨b, off, e, hlt, hc⟩ := h.2.2.2 hn
    have := hl.size
    exact ⟨b, off, e, by omega, fun i hi => (cell_sameE (p := ⟨b, off + i, none⟩) (hl.block b hlt (ha b off none e))).trans (hc i hi)⟩⟩
theorem LS.less {W0 V V' : World} {U : Nat} {a : Option Addr} {m : Nat} {ys : List Int} {u u' : Int} (h : LS W0 U a m ys u V) (hl : Less U V.heap.size V V') (hb : Boxed V' U 3 (.int .i64 u')) : LS W0 U a m ys u' V' := by
  have hs := h.bel.size
  exact ⟨⟨hl.same.1.trans h.bel.os, hl.same.2.1.trans h.bel.tape, hl.same.2.2.trans h.bel.output, by have := hl.size; omega, fun k hk => (hl.block k (by omega) (by have := h.low; omega)).trans (h.bel.block k hk)⟩, hb, ints_less h.ints hl h.apart, h.low, h.apart, h.few⟩
theorem LS.set {W0 V : World} {U : Nat} {a : Option Addr} {m : Nat} {ys : List Int} {u : Int} (h : LS W0 U a m ys u V) (v : Int) : LS W0 U a m ys v (V.setCell ⟨U, 0, none⟩ (.int .i64 v)) :=
  h.less ⟨⟨rfl, rfl, rfl⟩, by simp [World.setCell], fun k _ hk => setU V U _ k hk⟩ (h.box.set _)
/-- The world behind the making of a sequence. -/
def sqW (a : Option Addr) (m c U : Nat) (V : World) : World := (V.alloc (.cells #[.slice a m c] 22)).alloc (.cells #[.pointer (some ⟨U, 0, none⟩)] 27)
theorem sq_below (a : Option Addr) (m c U : Nat) (V : World) : Below V.heap.size V (sqW a m c U V) := below_new (below_new (Below.refl _ _) _) _
theorem sq_size (a : Option Addr) (m c U : Nat) (V : World) : (sqW a m c U V).heap.size = V.heap.size + 2 := by unfold sqW; simp only [World.size_alloc]
theorem seq_eg : ∀ args w, (callFunc 11 args).run Try.prog w = .ok (.enter 11 args) w := enters_of Try.func11 (by kernel_rfl) rfl
theorem every_eg : ∀ args w, (callFunc 14 args).run Try.prog w = .ok (.enter 14 args) w := enters_of Try.func14 (by kernel_rfl) rfl
section
variable {W0 V : World} {U : Nat} {a : Option Addr} {m : Nat} {ys : List Int} {u : Int}
theorem LS.seq (h : LS W0 U a m ys u V) (hu : 0 ≤ u ∧ u ≤ 1000) (c N : Nat) : SeqSt N Try.prog 11 #[.pointer (some ⟨V.heap.size, 0, none⟩), .pointer (some ⟨V.heap.size + 1, 0, none⟩)] encI U (KSeq V.heap.size U a) (StU U u) ys (sqW a m c U V) := by
  have hU := h.box.lt
  have hb := sq_below a m c U V
  have p0 : Boxed (sqW a m c U V) V.heap.size 22 (.slice a m c) := (Boxed.new V _ _).alloc _
  have p1 : Boxed (sqW a m c U V) (V.heap.size + 1) 27 (.pointer (some ⟨U, 0, none⟩)) := by
    have := Boxed.new (V.alloc (.cells #[.slice a m c] 22)) 27 (.pointer (some ⟨U, 0, none⟩))
    simp only [World.size_alloc] at this
    exact this
  exact seq_iter N V.heap.size U a m c ys u _ (by have := h.few; omega) hu.1 hu.2 p0 p1 (h.then_ hb).ints (by omega) (by omega) h.apart
theorem LS.keys (h : LS W0 U a m ys u V) (c : Nat) (hm : 0 < m ∨ ∀ g off sp, a = some ⟨g, off, sp⟩ → g < V.heap.size) : ∀ k, KSeq V.heap.size U a k → k < (sqW a m c U V).heap.size := by
  intro k hk
  have hU := h.box.lt
  rw [sq_size]
  rcases hk with rfl | rfl | rfl | ⟨off, sp, e⟩
  · omega
  · omega
  · omega
  · rcases hm with hm | hm
    · obtain ⟨b, o, e2, hb, _⟩ := h.ints.2.2.2 hm
      rw [e] at e2; cases e2; omega
    · have := hm _ _ _ e; omega
theorem LS.st0 (h : LS W0 U a m ys u V) (c : Nat) : StU U u [] (sqW a m c U V) := by
  have := ((sq_below a m c U V).block U h.box.lt).trans h.box
  unfold StU
  rw [show u + (([] : List Int).length : Int) = u from by simp]
  exact this
/-- What Take and Until hand back. -/
def Part (W0 : World) (U : Nat) (a : Option Addr) (m : Nat) (ys zs : List Int) (lo hi : Int) (s : Nat) (e : Ending) (w' : World) : Prop :=
  ∃ a' m' c' u', e = .returned (.slice a' m' c') ∧ Ints w' w'.heap.size a' m' zs ∧ LS W0 U a m ys u' w' ∧ lo ≤ u' ∧ u' ≤ hi ∧ s ≤ w'.heap.size
theorem own_part {w : World} {L : Nat} {v : Value} {zs : List Int} (h : w.ownsRow L 3 1 v zs.length (zs.map (Value.int .i64))) (hI : ∀ x ∈ zs, I64 x) : ∃ a' m' c', v = .slice a' m' c' ∧ Ints w w.heap.size a' m' zs := by
  obtain ⟨a', c', rfl, _, _, h3⟩ := own_ints h hI rfl
  exact ⟨a', zs.length, c', rfl, h3⟩
theorem LS.take (h : LS W0 U a m ys u V) (hu : 0 ≤ u ∧ u ≤ 1000) (c : Nat) (hm : 0 < m ∨ ∀ g off sp, a = some ⟨g, off, sp⟩ → g < V.heap.size) (n : Int) (hn : n ≤ 100) (hn0 : -9223372036854775808 ≤ n) :
    Calls Try.prog 4 #[seqF V.heap.size, .int .i64 n] (sqW a m c U V) (Part W0 U a m ys (ys.take n.toNat) (u + (ys.take n.toNat).length) (u + (ys.take n.toNat).length) V.heap.size) := by
  have hb := sq_below a m c U V
  have h2 := h.then_ hb
  refine (end_Take _ n hn hn0 seq_eg (by have := h.box.lt; have := hb.size; omega) (h.keys c hm) (.inr (.inr (.inl rfl))) (h.seq hu c 2) StU.keep (h.st0 c)).mono ?_
  rintro e w' hp
  unfold TakePost at hp
  by_cases h1 : n < 1
  · rw [if_pos h1] at hp
    obtain ⟨rfl, hl, hs⟩ := hp
    have : n.toNat = 0 := by omega
    rw [this]
    refine ⟨none, 0, 0, u, rfl, ⟨rfl, by omega, by simp, fun h => absurd h (by omega)⟩, h2.less hl (by have := hs; unfold StU at this; simpa using this), by simp, by simp, by have := hl.size; have := hb.size; omega⟩
  · rw [if_neg h1] at hp
    obtain ⟨v, rfl, ho, hl, hs⟩ := hp
    obtain ⟨a', m', c', rfl, hI⟩ := own_part ho (fun x hx => h.ints.2.2.1 x (List.mem_of_mem_take hx))
    exact ⟨a', m', c', _, rfl, hI, h2.less hl hs, Int.le_refl _, Int.le_refl _, by have := hl.size; have := hb.size; omega⟩
theorem LS.until_ (h : LS W0 U a m ys u V) (hu : 0 ≤ u ∧ u ≤ 1000) (c : Nat) (hm : 0 < m ∨ ∀ g off sp, a = some ⟨g, off, sp⟩ → g < V.heap.size) (day : Int) :
    Calls Try.prog 8 #[seqF V.heap.size, .int .i64 day] (sqW a m c U V) (Part W0 U a m ys (tw day ys) u (u + (tw day ys).length + 1) V.heap.size) := by
  have hb := sq_below a m c U V
  have h2 := h.then_ hb
  refine (end_Until _ day (by have := h.ints.1; have := h.few; omega) seq_eg (by have := h.box.lt; have := hb.size; omega) (h.keys c hm) (.inr (.inr (.inl rfl))) (h.seq hu c 2) StU.keep (h.st0 c)).mono ?_
  rintro e w' ⟨v, rfl, ho, hl, pre, hs, hlen⟩
  obtain ⟨a', m', c', rfl, hI⟩ := own_part ho (fun x hx => h.ints.2.2.1 x ((List.takeWhile_sublist _).subset hx))
  exact ⟨a', m', c', _, rfl, hI, h2.less hl hs, by omega, by omega, by have := hl.size; have := hb.size; omega⟩
end
theorem evW_len (n : Nat) : ∀ (w : Nat) (xs : List Int), (evW n w xs).length ≤ xs.length
  | _, [] => by simp [evW]
  | w, x :: r => by
    have := evW_len n (if w + 1 = n then 0 else w + 1) r
    rw [evW, List.length_append, List.length_cons]
    split <;> simp <;> omega
theorem evW_mem (n : Nat) : ∀ (w : Nat) (xs : List Int), ∀ y ∈ evW n w xs, y ∈ xs
  | _, [], y, h => by simp [evW] at h
  | w, x :: r, y, h => by
    rw [evW] at h
    rcases List.mem_append.1 h with h | h
    · split at h
      · simp at h; simp [h]
      · cases h
    · exact List.mem_cons_of_mem _ (evW_mem n _ r y h)
theorem evL_len (n : Int) (xs : List Int) : (evL n xs).length ≤ xs.length := by
  unfold evL
  split
  · simp
  · exact evW_len _ _ _
theorem evL_mem (n : Int) (xs : List Int) : ∀ y ∈ evL n xs, y ∈ xs := by
  unfold evL
  split
  · simp
  · exact evW_mem _ _ _
def ewW (a : Option Addr) (m c U : Nat) (n : Int) (V : World) : World := ((sqW a m c U V).alloc (.cells #[seqF V.heap.size] 25)).alloc (.cells #[.int .i64 n] 3)
theorem LS.every {W0 V : World} {U : Nat} {a : Option Addr} {m : Nat} {ys : List Int} {u : Int} (h : LS W0 U a m ys u V) (hu : 0 ≤ u ∧ u ≤ 1000) (c : Nat) (hm : 0 < m ∨ ∀ g off sp, a = some ⟨g, off, sp⟩ → g < V.heap.size) (n : Int) (hn : n ≤ 100) :
    Calls Try.prog 4 #[everyF (V.heap.size + 2), .int .i64 99] (ewW a m c U n V) (fun e w' => ∃ a' m' c', e = .returned (.slice a' m' c') ∧ Ints w' w'.heap.size a' m' (evL n ys) ∧ Below W0.heap.size W0 w' ∧ Less U V.heap.size V w') := by
  have hb := sq_below a m c U V
  have hU := h.box.lt
  have hsz := sq_size a m c U V
  have hb3 : Below (sqW a m c U V).heap.size (sqW a m c U V) (ewW a m c U n V) := below_new (below_new (Below.refl _ _) _) _
  have hs3 : (ewW a m c U n V).heap.size = V.heap.size + 4 := by unfold ewW; simp only [World.size_alloc]; omega
  have h3 := (h.then_ hb).then_ hb3
  have hk := h.keys c hm
  have p0 : Boxed (ewW a m c U n V) (V.heap.size + 2) 25 (seqF V.heap.size) := by
    have := (Boxed.new (sqW a m c U V) 25 (seqF V.heap.size)).alloc (.cells #[.int .i64 n] 3)
    rw [hsz] at this
    exact this
  have p1 : Boxed (ewW a m c U n V) (V.heap.size + 2 + 1) 3 (.int .i64 n) := by
    have := Boxed.new ((sqW a m c U V).alloc (.cells #[seqF V.heap.size] 25)) 3 (.int .i64 n)
    rw [World.size_alloc, hsz] at this
    exact this
  have hK3 : ∀ k, KSeq V.heap.size U a k → k < (ewW a m c U n V).heap.size := fun k hk' => by have := hk k hk'; omega
  have hst : StU U u [] (ewW a m c U n V) := StU.keep _ _ _ (h.st0 c) (hb3.block U (by omega))
  have hsq : ∀ N, SeqSt N Try.prog 11 #[.pointer (some ⟨V.heap.size, 0, none⟩), .pointer (some ⟨V.heap.size + 1, 0, none⟩)] encI U (KSeq V.heap.size U a) (StU U u) ys (ewW a m c U n V) := fun N => (h.seq hu c N).later hb3.size (fun k hk' => hb3.block k (hk k hk'))
  have hev := every_iter 2 (V.heap.size + 2) n hn _ seq_eg (by omega) hK3 (.inr (.inr (.inl rfl))) hsq StU.keep hst p0 p1 (by omega)
  refine (end_Take _ 99 (by omega) (by omega) every_eg (by omega) (fun k hk' => by
    rcases hk' with hk' | rfl | rfl
    · exact hK3 k hk'
    · omega
    · omega) (.inl (.inr (.inr (.inl rfl)))) hev (fun s A C hs e => by obtain ⟨pre, hp⟩ := hs; exact ⟨pre, StU.keep _ _ _ hp e⟩) ⟨[], hst⟩).mono ?_
  rintro e w' hp
  unfold TakePost at hp
  rw [if_neg (by omega)] at hp
  have hlen : (evL n ys).length ≤ 12 := by have := evL_len n ys; have := h.ints.1; have := h.few; omega
  have htk : (evL n ys).take (99 : Int).toNat = evL n ys := List.take_of_length_le (by show _ ≤ 99; omega)
  rw [htk] at hp
  obtain ⟨v, rfl, ho, hl, pre, hs⟩ := hp
  obtain ⟨a', m', c', rfl, hI⟩ := own_part ho (fun x hx => h.ints.2.2.1 x (evL_mem n ys x hx))
  have hbb := below_then hb hb3
  exact ⟨a', m', c', rfl, hI, (h3.less hl hs).bel, (SameO.of_below hbb).trans hl.same, by have := hbb.size; have := hl.size; omega, fun k hk1 hk2 => (hl.block k (by have := hbb.size; omega) hk2).trans (hbb.block k hk1)⟩
theorem evW_skip (n : Nat) : ∀ (r : List Int) (w : Nat), 0 < w → w < n → evW n w r = evW n 0 (r.drop (n - w))
  | [], w, _, _ => by simp [evW]
  | x :: r, w, h1, h2 => by
    rw [evW, if_neg (by omega), List.nil_append]
    by_cases h : w + 1 = n
    · rw [if_pos h, show n - w = 1 from by omega]; rfl
    · rw [if_neg h, evW_skip n r (w + 1) (by omega) (by omega), show n - w = n - (w + 1) + 1 from by omega, List.drop_succ_cons]
theorem evW_step (n : Nat) (hn : 0 < n) (x : Int) (r : List Int) : evW n 0 (x :: r) = x :: evW n 0 (r.drop (n - 1)) := by
  rw [evW, if_pos rfl]
  by_cases h : 0 + 1 = n
  · rw [if_pos h, show n - 1 = 0 from by omega]; rfl
  · rw [if_neg h, evW_skip n r (0 + 1) (by omega) (by omega)]; rfl
end Go.Proofs.Ytdmkghgachapaaa
