/- Contract of observed.Extend. -/
import Derived.Test.YtddiicljoekhmabObserved
import Derived.Test.YtddiicljoekhmabObx0
import Derived.Test.YtddiicljoekhmabStore
import Derived.Test.YtddiicljoekhmabLex
import Derived.Test.YtddiicljoekhmabKept
import Derived.Test.YtddiicljoekhmabOwn
import Derived.Deep.RegionHeld3
import Derived.Deep.Cut
import Derived.Deep.CutRange
import Derived.Deep.AppendLies
namespace Go.Proofs.Ytddiicljoekhmab
set_option linter.unusedVariables false
set_option linter.unusedSimpArgs false
set_option maxRecDepth 100000
open Go.RowKit

theorem At.store4 {w : World} {b : Nat} {x0 x1 x2 x3 : Value} {t : TypeId} {m : Nat × Nat} (h : At w b (.cells #[x0, x1, x2, x3] t m)) (u0 u1 u2 u3 : Value) : At ((((w.setCell ⟨b, 0, none⟩ u0).setCell ⟨b, 1, none⟩ u1).setCell ⟨b, 2, none⟩ u2).setCell ⟨b, 3, none⟩ u3) b (.cells #[u0, u1, u2, u3] t m) := by
  have := ((((h.store 0 u0).store 1 u1).store 2 u2).store 3 u3)
  simpa using this
theorem below_set4 {B : Nat} {a w : World} (h : Below B a w) {p : Nat} (hp : B ≤ p) (u0 u1 u2 u3 : Value) : Below B a ((((w.setCell ⟨p, 0, none⟩ u0).setCell ⟨p, 1, none⟩ u1).setCell ⟨p, 2, none⟩ u2).setCell ⟨p, 3, none⟩ u3) := (below_set (below_set (below_set (below_set h hp _) hp _) hp _) hp _)
abbrev tabV (s : ByteArray) (f : Int) (a1 : Option Addr) (n1 c1 : Nat) (a2 : Option Addr) (n2 c2 : Nat) : Value := .agg #[.string s, .int .i64 f, .slice a1 n1 c1, .slice a2 n2 c2]
abbrev tabO (s : ByteArray) (f : Int) (a1 : Option Addr) (n1 c1 : Nat) (a2 : Option Addr) (n2 c2 : Nat) : Obj := .cells #[.string s, .int .i64 f, .slice a1 n1 c1, .slice a2 n2 c2] 33
abbrev tab0 : Value := .agg #[.string ⟨#[]⟩, .int .i64 0, .slice none 0 0, .slice none 0 0]
section
variable {P : Program} {l : List Oper} {Q : Exit → Act → World → Prop} {md : Region.Mode} {S : World → Prop}
theorem lex_step2 {i j : Nat} {oi oj : Oper} {fuel : Nat} {listed : Array Bool} {a : Act} {w : World} (hi : l[i]? = some oi) (hj : l[j]? = some oj) (hr : Region.ready md l.toArray listed = [i, j]) (hw : Region.wanted oi (yielded l.toArray a.tmps) = true) (hw' : Region.wanted oj (yielded l.toArray a.tmps) = true)
    (h : ∀ K' : Act → World → Prop, Shut (∀ a w, S w → (S w → wpAnyH P md l.toArray Q S fuel (listed.setIfInBounds i true) a w) → K' a w) → Oper.wp P oi a w K' Q)
    (h' : ∀ K' : Act → World → Prop, Shut (∀ a w, S w → (S w → wpAnyH P md l.toArray Q S fuel (listed.setIfInBounds j true) a w) → K' a w) → Oper.wp P oj a w K' Q) : wpAnyH P md l.toArray Q S (fuel + 1) listed a w :=
  wpAnyH_ready hr (by simp) (AllReadyH.cons (o := oi) (by simpa using hi) (fun K hK => by rw [if_pos hw]; exact h K hK) (AllReadyH.cons (o := oj) (by simpa using hj) (fun K hK => by rw [if_pos hw']; exact h' K hK) AllReadyH.nil))
theorem lex_step3 {i j k : Nat} {oi oj ok : Oper} {fuel : Nat} {listed : Array Bool} {a : Act} {w : World} (hi : l[i]? = some oi) (hj : l[j]? = some oj) (hk : l[k]? = some ok) (hr : Region.ready md l.toArray listed = [i, j, k]) (hw : Region.wanted oi (yielded l.toArray a.tmps) = true) (hw' : Region.wanted oj (yielded l.toArray a.tmps) = true) (hw'' : Region.wanted ok (yielded l.toArray a.tmps) = true)
    (h : ∀ K' : Act → World → Prop, Shut (∀ a w, S w → (S w → wpAnyH P md l.toArray Q S fuel (listed.setIfInBounds i true) a w) → K' a w) → Oper.wp P oi a w K' Q)
    (h' : ∀ K' : Act → World → Prop, Shut (∀ a w, S w → (S w → wpAnyH P md l.toArray Q S fuel (listed.setIfInBounds j true) a w) → K' a w) → Oper.wp P oj a w K' Q)
    (h'' : ∀ K' : Act → World → Prop, Shut (∀ a w, S w → (S w → wpAnyH P md l.toArray Q S fuel (listed.setIfInBounds k true) a w) → K' a w) → Oper.wp P ok a w K' Q) : wpAnyH P md l.toArray Q S (fuel + 1) listed a w :=
  wpAnyH_ready hr (by simp) (AllReadyH.cons (o := oi) (by simpa using hi) (fun K hK => by rw [if_pos hw]; exact h K hK) (AllReadyH.cons (o := oj) (by simpa using hj) (fun K hK => by rw [if_pos hw']; exact h' K hK) (AllReadyH.cons (o := ok) (by simpa using hk) (fun K hK => by rw [if_pos hw'']; exact h'' K hK) AllReadyH.nil)))
theorem lex_step4 {i j k m : Nat} {oi oj ok om : Oper} {fuel : Nat} {listed : Array Bool} {a : Act} {w : World} (hi : l[i]? = some oi) (hj : l[j]? = some oj) (hk : l[k]? = some ok) (hm : l[m]? = some om) (hr : Region.ready md l.toArray listed = [i, j, k, m]) (hw : Region.wanted oi (yielded l.toArray a.tmps) = true) (hw' : Region.wanted oj (yielded l.toArray a.tmps) = true) (hw'' : Region.wanted ok (yielded l.toArray a.tmps) = true) (hw3 : Region.wanted om (yielded l.toArray a.tmps) = true)
    (h : ∀ K' : Act → World → Prop, Shut (∀ a w, S w → (S w → wpAnyH P md l.toArray Q S fuel (listed.setIfInBounds i true) a w) → K' a w) → Oper.wp P oi a w K' Q)
    (h' : ∀ K' : Act → World → Prop, Shut (∀ a w, S w → (S w → wpAnyH P md l.toArray Q S fuel (listed.setIfInBounds j true) a w) → K' a w) → Oper.wp P oj a w K' Q)
    (h'' : ∀ K' : Act → World → Prop, Shut (∀ a w, S w → (S w → wpAnyH P md l.toArray Q S fuel (listed.setIfInBounds k true) a w) → K' a w) → Oper.wp P ok a w K' Q)
    (h3 : ∀ K' : Act → World → Prop, Shut (∀ a w, S w → (S w → wpAnyH P md l.toArray Q S fuel (listed.setIfInBounds m true) a w) → K' a w) → Oper.wp P om a w K' Q) : wpAnyH P md l.toArray Q S (fuel + 1) listed a w :=
  wpAnyH_ready hr (by simp) (AllReadyH.cons (o := oi) (by simpa using hi) (fun K hK => by rw [if_pos hw]; exact h K hK) (AllReadyH.cons (o := oj) (by simpa using hj) (fun K hK => by rw [if_pos hw']; exact h' K hK) (AllReadyH.cons (o := ok) (by simpa using hk) (fun K hK => by rw [if_pos hw'']; exact h'' K hK) (AllReadyH.cons (o := om) (by simpa using hm) (fun K hK => by rw [if_pos hw3]; exact h3 K hK) AllReadyH.nil))))
end
theorem join5 {G F : Nat → Nat → Nat → Nat → Nat → Value → Nat → Nat → World → Prop} {R : Prop} (h : (∀ Z g c g' c' v p q V, F Z g c g' c' v p q V → G Z g c g' c' v p q V) → R) (k : ∀ Z g c g' c' v p q V, F Z g c g' c' v p q V → G Z g c g' c' v p q V) : R := h k
theorem own_low {w : World} {base b' : Nat} {e : TypeId} {size : Nat} {v : Value} {n : Nat} {xs : List Value} (h : w.ownsRow base e size v n xs) (hb : b' ≤ base) : w.ownsRow b' e size v n xs := by
  refine ⟨h.1, ?_⟩
  rcases h.2 with h0 | ⟨g, cap, cur, hv, hg, rest⟩
  · exact .inl h0
  · exact .inr ⟨g, cap, cur, hv, Nat.le_trans hb hg, rest⟩
theorem own_thenI {w w' : World} {base : Nat} {e : TypeId} {size : Nat} {v : Value} {n : Nat} {xs : List Value} (h : w.ownsRow base e size v n xs) (hb : Below w.heap.size w w') : w'.ownsRow base e size v n xs := by
  refine ⟨h.1, ?_⟩
  rcases h.2 with h0 | ⟨g, cap, cur, hv, hg, hat, rest⟩
  · exact .inl h0
  · exact .inr ⟨g, cap, cur, hv, hg, (show At w g _ from hat).then_ hb, rest⟩
theorem own_apart4 {w : World} {base : Nat} {e : TypeId} {size : Nat} {g n cap : Nat} {xs : List Value} (h : w.ownsRow base e size (.slice (some ⟨g, 0, none⟩) n cap) n xs) {p : Nat} (hp : p ≠ g) (u0 u1 u2 u3 : Value) :
    ((((w.setCell ⟨p, 0, none⟩ u0).setCell ⟨p, 1, none⟩ u1).setCell ⟨p, 2, none⟩ u2).setCell ⟨p, 3, none⟩ u3).ownsRow base e size (.slice (some ⟨g, 0, none⟩) n cap) n xs := by
  refine ⟨h.1, ?_⟩
  rcases h.2 with h0 | ⟨g', cap', cur, hv, hg, hat, rest⟩
  · exact .inl h0
  · obtain ⟨rfl, rfl⟩ : g = g' ∧ cap = cap' := by injection hv with a1 a2 a3; injection a1 with a1; injection a1 with a1; exact ⟨a1, a3⟩
    have z : At w g (.cells cur e) := hat
    exact .inr ⟨g, cap, cur, rfl, hg, (((z.apart (p := ⟨p, 0, none⟩) hp.symm u0).apart (p := ⟨p, 1, none⟩) hp.symm u1).apart (p := ⟨p, 2, none⟩) hp.symm u2).apart (p := ⟨p, 3, none⟩) hp.symm u3, rest⟩
/-- Behind the store of the longer table. -/
theorem ext_ints {W : World} {B g n cap : Nat} {zs : List Int} (p1 : W.ownsRow B 3 1 (.slice (some ⟨g, 0, none⟩) n cap) n (zs.map (Value.int .i64))) (hi : ∀ x ∈ zs, I64 x) (hl : zs.length = n) : Ints W W.heap.size (some ⟨g, 0, none⟩) n zs := by
  obtain ⟨a, c, e1, _, _, i1⟩ := own_ints p1 hi hl
  have e : some (⟨g, 0, none⟩ : Addr) = a := by injection e1
  rw [e]; exact i1
theorem ext_rel {w2 V : World} {s : ByteArray} {f : Int} {n1 n2 n3 Z g10 cap10 g15 cap15 : Nat} (ms ss st : List Int) (hi : ∀ x ∈ ms ++ [(n3 : Int)], I64 x) (his : ∀ x ∈ ss ++ st, I64 x) (hlm : (ms ++ [(n3 : Int)]).length = n1 + 1) (hls : (ss ++ st).length = n2 + n3)
    (hz : At V Z (tabO ⟨#[]⟩ 0 none 0 0 none 0 0)) (o1 : V.ownsRow w2.heap.size 3 1 (.slice (some ⟨g10, 0, none⟩) (n1 + 1) cap10) (n1 + 1) (ms.map (Value.int .i64) ++ [.int .i64 (n3 : Int)])) (o2 : V.ownsRow w2.heap.size 3 1 (.slice (some ⟨g15, 0, none⟩) (n2 + n3) cap15) (n2 + n3) ((ss ++ st).map (Value.int .i64)))
    (h1 : Z ≠ g10) (h2 : Z ≠ g15) (hb : Below w2.heap.size w2 V) (hZ : w2.heap.size ≤ Z) {W : World}
    (hW : W = ((((V.setCell ⟨Z, 0, none⟩ (.string s)).setCell ⟨Z, 1, none⟩ (.int .i64 f)).setCell ⟨Z, 2, none⟩ (.slice (some ⟨g10, 0, none⟩) (n1 + 1) cap10)).setCell ⟨Z, 3, none⟩ (.slice (some ⟨g15, 0, none⟩) (n2 + n3) cap15))) :
    At W Z (tabO s f (some ⟨g10, 0, none⟩) (n1 + 1) cap10 (some ⟨g15, 0, none⟩) (n2 + n3) cap15) ∧ Ints W W.heap.size (some ⟨g10, 0, none⟩) (n1 + 1) (ms ++ [(n3 : Int)]) ∧ Ints W W.heap.size (some ⟨g15, 0, none⟩) (n2 + n3) (ss ++ st) ∧ Below w2.heap.size w2 W ∧ w2.heap.size ≤ Z ∧ w2.heap.size ≤ g10 ∧ w2.heap.size ≤ g15 := by
  subst hW
  have p1 := own_apart4 o1 h1 (.string s) (.int .i64 f) (.slice (some ⟨g10, 0, none⟩) (n1 + 1) cap10) (.slice (some ⟨g15, 0, none⟩) (n2 + n3) cap15)
  have p2 := own_apart4 o2 h2 (.string s) (.int .i64 f) (.slice (some ⟨g10, 0, none⟩) (n1 + 1) cap10) (.slice (some ⟨g15, 0, none⟩) (n2 + n3) cap15)
  rw [show ms.map (Value.int .i64) ++ [.int .i64 (n3 : Int)] = (ms ++ [(n3 : Int)]).map (Value.int .i64) by simp] at p1
  have i1 := ext_ints p1 hi hlm
  have i2 := ext_ints p2 his hls
  have z1 := hz.store4 (.string s) (.int .i64 f) (.slice (some ⟨g10, 0, none⟩) (n1 + 1) cap10) (.slice (some ⟨g15, 0, none⟩) (n2 + n3) cap15)
  have z2 := below_set4 hb hZ (.string s) (.int .i64 f) (.slice (some ⟨g10, 0, none⟩) (n1 + 1) cap10) (.slice (some ⟨g15, 0, none⟩) (n2 + n3) cap15)
  exact ⟨z1, i1, i2, z2, hZ, (o1.lt g10 rfl).1, (o2.lt g15 rfl).1⟩
theorem ints_apart4 {V : World} {g n p : Nat} {zs : List Int} (h : Ints V V.heap.size (some ⟨g, 0, none⟩) n zs) (hp : p ≠ g) (u0 u1 u2 u3 : Value) :
    Ints ((((V.setCell ⟨p, 0, none⟩ u0).setCell ⟨p, 1, none⟩ u1).setCell ⟨p, 2, none⟩ u2).setCell ⟨p, 3, none⟩ u3) ((((V.setCell ⟨p, 0, none⟩ u0).setCell ⟨p, 1, none⟩ u1).setCell ⟨p, 2, none⟩ u2).setCell ⟨p, 3, none⟩ u3).heap.size (some ⟨g, 0, none⟩) n zs := by
  refine ⟨h.1, h.2.1, h.2.2.1, fun hn => ?_⟩
  obtain ⟨b, off, e, hlt, hc⟩ := h.2.2.2 hn
  obtain ⟨rfl, rfl⟩ : g = b ∧ 0 = off := by injection e with e; injection e with e1 e2; exact ⟨e1, e2⟩
  refine ⟨g, 0, rfl, by simp [World.setCell]; exact hlt, fun i hi => ?_⟩
  have hb : ((((V.setCell ⟨p, 0, none⟩ u0).setCell ⟨p, 1, none⟩ u1).setCell ⟨p, 2, none⟩ u2).setCell ⟨p, 3, none⟩ u3).heap[g]? = V.heap[g]? := by
    rw [Below.heap_setCell _ ⟨p, 3, none⟩ u3 g hp.symm, Below.heap_setCell _ ⟨p, 2, none⟩ u2 g hp.symm, Below.heap_setCell _ ⟨p, 1, none⟩ u1 g hp.symm, Below.heap_setCell _ ⟨p, 0, none⟩ u0 g hp.symm]
  exact (World.cell?_of_block (a := ⟨g, 0 + i, none⟩) hb).trans (hc i hi)
theorem tableErr_len {s : ByteArray} {f : Int} {ms ss : List Int} (h : tableErr s f ms ss = 0) : ms.length ≤ 40 ∧ ss.length ≤ 600 := by
  unfold tableErr at h
  split at h
  · omega
  split at h
  · omega
  rename_i hl
  split at h
  · omega
  split at h
  · omega
  rename_i hm
  split at h
  · omega
  rename_i hs
  have h40 : ms.length ≤ 40 := by omega
  have := sum_bound 40 ms (fun m hmm => by
    have h2 : ms.all mOk = true := by simpa using hm
    exact List.all_eq_true.1 h2 m hmm) h40
  omega
/-- The error of a longer table. -/
def extE (s : ByteArray) (f : Int) (ms ss st : List Int) : Int :=
  if tableErr s f ms ss ≠ 0 then tableErr s f ms ss else if st.length ≠ 12 ∧ st.length ≠ 13 then 1 else tableErr s f (ms ++ [(st.length : Int)]) (ss ++ st)
def ExtPost (s : ByteArray) (f : Int) (ms ss st : List Int) (w : World) (e : Ending) (w' : World) : Prop :=
  Below w.heap.size w w' ∧ if extE s f ms ss st ≠ 0 then e = .returned (.tuple #[tab0, .int .i64 (extE s f ms ss st)])
    else ∃ b1 m1 d1 b2 m2 d2, e = .returned (.tuple #[tabV s f b1 m1 d1 b2 m2 d2, .int .i64 0]) ∧ Ints w' w'.heap.size b1 m1 (ms ++ [(st.length : Int)]) ∧ Ints w' w'.heap.size b2 m2 (ss ++ st)
theorem ext_err {s : ByteArray} {f : Int} {ms ss st : List Int} {k : Int} {w w' : World} {e : Ending} (h : extE s f ms ss st = k) (hk : k ≠ 0) (he : e = .returned (.tuple #[tab0, .int .i64 k])) (hb : Below w.heap.size w w') : ExtPost s f ms ss st w e w' := by
  refine ⟨hb, ?_⟩
  rw [h, if_pos hk]; exact he
set_option maxHeartbeats 8000000 in
theorem observed_Extend (w : World) (s : ByteArray) (f : Int) (a1 a2 a3 : Option Addr) (n1 c1 n2 c2 n3 c3 : Nat) (ms ss st : List Int) (hs : s.size ≤ 9223372036854775807) (hf : I64 f)
    (h1 : Ints w w.heap.size a1 n1 ms) (h2 : Ints w w.heap.size a2 n2 ss) (h3 : Ints w w.heap.size a3 n3 st) (e2 : a2 = none → c2 = 0) (e3 : a3 = none → c3 = 0) :
    Calls Try.prog 11 #[tabV s f a1 n1 c1 a2 n2 c2, .slice a3 n3 c3] w (ExtPost s f ms ss st w) := by
  have L1 := Lib.hid h1.1; have L2 := Lib.hid h2.1; have L3 := Lib.hid h3.1
  have H1 := Lib.hid h1; have H2 := Lib.hid h2; have H3 := Lib.hid h3
  have mx3 := h3.2.1
  have HO := Lib.hid (show extE s f ms ss st = if tableErr s f ms ss ≠ 0 then tableErr s f ms ss else if st.length ≠ 12 ∧ st.length ≠ 13 then 1 else tableErr s f (ms ++ [(st.length : Int)]) (ss ++ st) from rfl)
  have f1 := hf.1; have f2 := hf.2
  clear h1 h2 h3
  go_enter Try.func11, Try.ntmps11
  go_wp2_with fail
  have t0 := (At.new w (tabO s f a1 n1 c1 a2 n2 c2)).alloc (tabO ⟨#[]⟩ 0 none 0 0 none 0 0)
  have r0 := At.new1 w (tabO s f a1 n1 c1 a2 n2 c2) (tabO ⟨#[]⟩ 0 none 0 0 none 0 0)
  have b0 := below_new (below_new (Below.refl w.heap.size w) (tabO s f a1 n1 c1 a2 n2 c2)) (tabO ⟨#[]⟩ 0 none 0 0 none 0 0)
  generalize World.alloc (World.alloc w _) _ = W1 at t0 r0 b0 ⊢
  have hTl := t0.lt; have hRl := r0.lt
  refine (observed_Check W1 s f a1 a2 n1 c1 n2 c2 ms ss hs f1 f2 (H1.out.far b0 (Below.refl _ _)) (H2.out.far b0 (Below.refl _ _))).mono ?_
  rintro e w2 ⟨rfl, hb⟩
  have B2 := Lib.hid (below_then b0 hb); have T2 := Lib.hid (t0.then_ hb); have R2 := Lib.hid (r0.then_ hb)
  clear t0 r0 b0 hb
  obtain ⟨T, hT⟩ : ∃ T, T = w.heap.size := ⟨_, rfl⟩
  have HTq := Lib.hid hT
  rw [← hT] at T2 R2 B2 hTl hRl ⊢
  clear hT
  have z0 : w2.cell? ⟨T, 0, none⟩ = some (.string s) := T2.out.cell 0
  have z1 : w2.cell? ⟨T, 1, none⟩ = some (.int .i64 f) := T2.out.cell 1
  have z2 : w2.cell? ⟨T, 2, none⟩ = some (.slice a1 n1 c1) := T2.out.cell 2
  have z3 : w2.cell? ⟨T, 3, none⟩ = some (.slice a2 n2 c2) := T2.out.cell 3
  have y0 : w2.cell? ⟨T + 1, 0, none⟩ = some (.string ⟨#[]⟩) := R2.out.cell 0
  have y1 : w2.cell? ⟨T + 1, 1, none⟩ = some (.int .i64 0) := R2.out.cell 1
  have y2 : w2.cell? ⟨T + 1, 2, none⟩ = some (.slice none 0 0) := R2.out.cell 2
  have y3 : w2.cell? ⟨T + 1, 3, none⟩ = some (.slice none 0 0) := R2.out.cell 3
  have fz0 := R2.out.frozen 0; have fz1 := R2.out.frozen 1; have fz2 := R2.out.frozen 2; have fz3 := R2.out.frozen 3
  by_cases hE : tableErr s f ms ss = 0
  case neg =>
    have HF := Lib.hid (show extE s f ms ss st = tableErr s f ms ss by rw [HO.out, if_pos hE])
    have hq : (tableErr s f ms ss != 0) = true := by simpa using hE
    have HQ := Lib.hid hE
    generalize tableErr s f ms ss = E at hq HF HQ ⊢
    clear hE HO
    go_wp2_with fail
    have BL := Lib.hid (below_set4 B2.out (p := T + 1) (by omega) (.string ⟨#[]⟩) (.int .i64 0) (.slice none 0 0) (.slice none 0 0))
    have zz := R2.out.store4 (.string ⟨#[]⟩) (.int .i64 0) (.slice none 0 0) (.slice none 0 0)
    have e0 := zz.cell 0; have e1 := zz.cell 1; have e2 := zz.cell 2; have e3 := zz.cell 3; simp at e0 e1 e2 e3
    exact bodyPost_ret (v := .tuple #[tab0, .int .i64 E]) (by simp [results, Try.results11, go_sem, e0, e1, e2, e3]) rfl (ext_err HF.out HQ.out rfl (by rw [← HTq.out]; exact BL.out))
  rw [hE]
  have HO1 := Lib.hid (show extE s f ms ss st = if st.length ≠ 12 ∧ st.length ≠ 13 then 1 else tableErr s f (ms ++ [(st.length : Int)]) (ss ++ st) by rw [HO.out, if_neg (by omega)])
  have HTE := Lib.hid hE
  clear HO hE
  by_cases hn : n3 = 12 ∨ n3 = 13
  case neg =>
    have HF := Lib.hid (show extE s f ms ss st = 1 by rw [HO1.out, if_pos (by rw [L3.out]; omega)])
    have hn1 : ((n3 : Int) != 12) = true := by simp; omega
    have hn2 : ((n3 : Int) != 13) = true := by simp; omega
    clear HO1 hn
    go_wp2_with fail
    have BL := Lib.hid (below_set4 B2.out (p := T + 1) (by omega) (.string ⟨#[]⟩) (.int .i64 0) (.slice none 0 0) (.slice none 0 0))
    have zz := R2.out.store4 (.string ⟨#[]⟩) (.int .i64 0) (.slice none 0 0) (.slice none 0 0)
    have e0 := zz.cell 0; have e1 := zz.cell 1; have e2 := zz.cell 2; have e3 := zz.cell 3; simp at e0 e1 e2 e3
    exact bodyPost_ret (v := .tuple #[tab0, .int .i64 1]) (by simp [results, Try.results11, go_sem, e0, e1, e2, e3]) rfl (ext_err HF.out (by decide) rfl (by rw [← HTq.out]; exact BL.out))
  have HO2 := Lib.hid (show extE s f ms ss st = tableErr s f (ms ++ [(st.length : Int)]) (ss ++ st) by rw [HO1.out, if_neg (by rw [L3.out]; omega)])
  clear HO1
  obtain ⟨h40, h600⟩ := tableErr_len HTE.out
  have hn1 : n1 ≤ 40 := by rw [← L1.out]; exact h40
  have hn2 : n2 ≤ 600 := by rw [← L2.out]; exact h600
  have hTw : w.heap.size ≤ T := by rw [HTq.out]; exact Nat.le_refl _
  have hT2 : w.heap.size ≤ w2.heap.size := B2.out.size
  have HA1 := Lib.hid ((H1.out.below B2.out hTw).more hT2); have HA2 := Lib.hid ((H2.out.below B2.out hTw).more hT2); have HA3 := Lib.hid ((H3.out.below B2.out hTw).more hT2)
  have HI := Lib.hid (show ∀ x ∈ ms ++ [(n3 : Int)], I64 x from fun x hx => by
    rcases List.mem_append.1 hx with hx | hx
    · exact H1.out.2.2.1 x hx
    · rw [List.mem_singleton] at hx; subst hx; constructor <;> omega)
  have HIS := Lib.hid (show ∀ x ∈ ss ++ st, I64 x from fun x hx => by
    rcases List.mem_append.1 hx with hx | hx
    · exact H2.out.2.2.1 x hx
    · exact H3.out.2.2.1 x hx)
  have hlm : (ms ++ [(n3 : Int)]).length = n1 + 1 := by rw [List.length_append, L1.out]; rfl
  have hls : (ss ++ st).length = n2 + n3 := by rw [List.length_append, L2.out, L3.out]
  have HLM := Lib.hid hlm; have HLS := Lib.hid hls
  have hn3 : n3 ≤ 13 ∧ 12 ≤ n3 := by omega
  clear hlm hls h40 h600
  have hn3a := hn3.1; have hn3b := hn3.2
  have HK3 := Lib.hid hn
  clear hn
  have KK := Lib.hid (fun (W : World) (hW : Below w2.heap.size w2 W) => show W.cell? ⟨T, 0, none⟩ = some (.string s) ∧ W.cell? ⟨T, 1, none⟩ = some (.int .i64 f) ∧ W.cell? ⟨T, 2, none⟩ = some (.slice a1 n1 c1) ∧ W.cell? ⟨T, 3, none⟩ = some (.slice a2 n2 c2) from ⟨(T2.out.then_ hW).cell 0, (T2.out.then_ hW).cell 1, (T2.out.then_ hW).cell 2, (T2.out.then_ hW).cell 3⟩)
  obtain ⟨i0, hi, hz0, hz1, hz2⟩ := info_parts Try.infoIntX
  go_upto_region 4 with (fail)
  go_cut [22] from 15 (fun b wx => b = .bool false ∧ w2 = wx)
  case first =>
    rcases HK3.out with rfl | rfl
    · go_wp2_with fail
      go_meet
      case rel => exact ⟨rfl, rfl⟩
    · go_wp2_with fail
      go_meet
      case rel => exact ⟨rfl, rfl⟩
  case rest =>
  obtain ⟨rfl, rfl⟩ := hcut
  go_upto_region 6 with (fail)
  go_cut [7] from 24 (fun y wx => ∃ Z g1 d1 g2 d2, y = .pointer (some ⟨Z, 0, none⟩) ∧ At wx Z (tabO s f (some ⟨g1, 0, none⟩) (n1 + 1) d1 (some ⟨g2, 0, none⟩) (n2 + n3) d2) ∧ Ints wx wx.heap.size (some ⟨g1, 0, none⟩) (n1 + 1) (ms ++ [(n3 : Int)]) ∧ Ints wx wx.heap.size (some ⟨g2, 0, none⟩) (n2 + n3) (ss ++ st) ∧ Below w2.heap.size w2 wx ∧ w2.heap.size ≤ Z ∧ w2.heap.size ≤ g1 ∧ w2.heap.size ≤ g2)
  case first =>
    clear z0 z1 z2 z3 y0 y1 y2 y3 fz0 fz1 fz2 fz3
    refine wp_region_held_drew (S := (fun w' => w'.cell? ⟨T, 0, none⟩ = some (.string s) ∧ w'.cell? ⟨T, 1, none⟩ = some (.int .i64 f) ∧ w'.cell? ⟨T, 2, none⟩ = some (.slice a1 n1 c1) ∧ w'.cell? ⟨T, 3, none⟩ = some (.slice a2 n2 c2))) (by kernel_rfl) ?_ (fun hHeld => ?_)
    · (try dsimp only); exact KK.out _ (Below.refl _ _).drew
    refine lex_take (i := 0) (v := ?_) rfl (by kernel_rfl) (by kernel_rfl) (by kernel_rfl) (fun _ _ _ h => h) (by rfl) ?_ (by assumption) ?_
    rotate_left
    · (intro w hSw; (try dsimp only at hSw); have z0 := hSw.1; have z1 := hSw.2.1; have z2 := hSw.2.2.1; have z3 := hSw.2.2.2; go_simp; try with_reducible rfl)
    try simp only [Act.put, List.setIfInBounds_toArray, List.set_cons_zero, List.set_cons_succ]
    refine lex_take (i := 1) (v := ?_) rfl (by kernel_rfl) (by kernel_rfl) (by kernel_rfl) (fun _ _ _ h => h) (by rfl) ?_ (by assumption) ?_
    rotate_left
    · (intro w hSw; (try dsimp only at hSw); have z0 := hSw.1; have z1 := hSw.2.1; have z2 := hSw.2.2.1; have z3 := hSw.2.2.2; go_simp; try with_reducible rfl)
    try simp only [Act.put, List.setIfInBounds_toArray, List.set_cons_zero, List.set_cons_succ]
    refine lex_take (i := 2) (v := ?_) rfl (by kernel_rfl) (by kernel_rfl) (by kernel_rfl) (fun _ _ _ h => h) (by rfl) ?_ (by assumption) ?_
    rotate_left
    · (intro w hSw; (try dsimp only at hSw); have z0 := hSw.1; have z1 := hSw.2.1; have z2 := hSw.2.2.1; have z3 := hSw.2.2.2; go_simp; try with_reducible rfl)
    try simp only [Act.put, List.setIfInBounds_toArray, List.set_cons_zero, List.set_cons_succ]
    refine lex_take (i := 3) (v := ?_) rfl (by kernel_rfl) (by kernel_rfl) (by kernel_rfl) (fun _ _ _ h => h) (by rfl) ?_ (by assumption) ?_
    rotate_left
    · (intro w hSw; (try dsimp only at hSw); have z0 := hSw.1; have z1 := hSw.2.1; have z2 := hSw.2.2.1; have z3 := hSw.2.2.2; go_simp; try with_reducible rfl)
    try simp only [Act.put, List.setIfInBounds_toArray, List.set_cons_zero, List.set_cons_succ]
    refine lex_take (i := 4) (v := ?_) rfl (by kernel_rfl) (by kernel_rfl) (by kernel_rfl) (fun _ _ _ h => h) (by rfl) ?_ (by assumption) ?_
    rotate_left
    · (intro w hSw; (try dsimp only at hSw); have z0 := hSw.1; have z1 := hSw.2.1; have z2 := hSw.2.2.1; have z3 := hSw.2.2.2; go_simp; try with_reducible rfl)
    try simp only [Act.put, List.setIfInBounds_toArray, List.set_cons_zero, List.set_cons_succ]
    refine lex_take (i := 5) (v := ?_) rfl (by kernel_rfl) (by kernel_rfl) (by kernel_rfl) (fun _ _ _ h => h) (by rfl) ?_ (by assumption) ?_
    rotate_left
    · (intro w hSw; (try dsimp only at hSw); have z0 := hSw.1; have z1 := hSw.2.1; have z2 := hSw.2.2.1; have z3 := hSw.2.2.2; go_simp; try with_reducible rfl)
    try simp only [Act.put, List.setIfInBounds_toArray, List.set_cons_zero, List.set_cons_succ]
    refine lex_take (i := 7) (v := ?_) rfl (by kernel_rfl) (by kernel_rfl) (by kernel_rfl) (fun _ _ _ h => h) (by rfl) ?_ (by assumption) ?_
    rotate_left
    · (intro w hSw; (try dsimp only at hSw); have z0 := hSw.1; have z1 := hSw.2.1; have z2 := hSw.2.2.1; have z3 := hSw.2.2.2; go_simp; try with_reducible rfl)
    try simp only [Act.put, List.setIfInBounds_toArray, List.set_cons_zero, List.set_cons_succ]
    refine lex_take (i := 8) (v := ?_) rfl (by kernel_rfl) (by kernel_rfl) (by kernel_rfl) (fun _ _ _ h => h) (by rfl) ?_ (by assumption) ?_
    rotate_left
    · (intro w hSw; (try dsimp only at hSw); have z0 := hSw.1; have z1 := hSw.2.1; have z2 := hSw.2.2.1; have z3 := hSw.2.2.2; go_simp; try with_reducible rfl)
    try simp only [Act.put, List.setIfInBounds_toArray, List.set_cons_zero, List.set_cons_succ]
    refine lex_take (i := 11) (v := ?_) rfl (by kernel_rfl) (by kernel_rfl) (by kernel_rfl) (fun _ _ _ h => h) (by rfl) ?_ (by assumption) ?_
    rotate_left
    · (intro w hSw; (try dsimp only at hSw); have z0 := hSw.1; have z1 := hSw.2.1; have z2 := hSw.2.2.1; have z3 := hSw.2.2.2; go_simp; try with_reducible rfl)
    try simp only [Act.put, List.setIfInBounds_toArray, List.set_cons_zero, List.set_cons_succ]
    refine lex_take (i := 12) (v := ?_) rfl (by kernel_rfl) (by kernel_rfl) (by kernel_rfl) (fun _ _ _ h => h) (by rfl) ?_ (by assumption) ?_
    rotate_left
    · (intro w hSw; (try dsimp only at hSw); have z0 := hSw.1; have z1 := hSw.2.1; have z2 := hSw.2.2.1; have z3 := hSw.2.2.2; go_simp; try with_reducible rfl)
    try simp only [Act.put, List.setIfInBounds_toArray, List.set_cons_zero, List.set_cons_succ]
    refine lex_take (i := 13) (v := ?_) rfl (by kernel_rfl) (by kernel_rfl) (by kernel_rfl) (fun _ _ _ h => h) (by rfl) ?_ (by assumption) ?_
    rotate_left
    · (intro w hSw; (try dsimp only at hSw); have z0 := hSw.1; have z1 := hSw.2.1; have z2 := hSw.2.2.1; have z3 := hSw.2.2.2; go_simp; try with_reducible rfl)
    try simp only [Act.put, List.setIfInBounds_toArray, List.set_cons_zero, List.set_cons_succ]
    have BV := Lib.hid (Below.refl w2.heap.size w2).drew
    generalize World.drew w2 = V0 at BV hHeld ⊢
    refine' join5 (F := (fun Z g10 cap10 g15 cap15 _ _ _ V => At V Z (tabO ⟨#[]⟩ 0 none 0 0 none 0 0) ∧ V.ownsRow w2.heap.size 3 1 (.slice (some ⟨g10, 0, none⟩) (n1 + 1) cap10) (n1 + 1) (ms.map (Value.int .i64) ++ [.int .i64 (n3 : Int)]) ∧ V.ownsRow w2.heap.size 3 1 (.slice (some ⟨g15, 0, none⟩) (n2 + n3) cap15) (n2 + n3) ((ss ++ st).map (Value.int .i64)) ∧ Z ≠ g10 ∧ Z ≠ g15 ∧ Below w2.heap.size w2 V ∧ w2.heap.size ≤ Z)) (fun hj => ?_) ?_
    rotate_left
    · refine lex_step4 (i := 6) (j := 9) (k := 14) (m := 17) rfl rfl rfl rfl (by kernel_rfl) (by rfl) (by rfl) (by rfl) (by rfl) (fun Kx hKx => ?_) (fun Kx hKx => ?_) (fun Kx hKx => ?_) (fun Kx hKx => ?_)
      · (go_simp; go_at_call 21; refine (clone_ints V0 a1 n1 c1 ms (ints_thenX HA1.out BV.out) (by omega)).mono ?_; rintro e V1 ⟨v6, rfl, own6, hb6⟩; try go_wp2_with fail)
        refine hKx.out _ _ ?_ (fun hHeld => ?_)
        · (try dsimp only); exact KK.out _ (below_then BV.out hb6)
        clear hKx Kx
        try simp only [Act.put, List.setIfInBounds_toArray, List.set_cons_zero, List.set_cons_succ]
        have OW6 := Lib.hid (own_low own6 BV.out.size)
        replace BV := Lib.hid (below_then BV.out hb6)
        clear own6 hb6
        refine lex_step3 (i := 9) (j := 14) (k := 17) rfl rfl rfl (by kernel_rfl) (by rfl) (by rfl) (by rfl) (fun Kx hKx => ?_) (fun Kx hKx => ?_) (fun Kx hKx => ?_)
        · go_simp
          refine hKx.out _ _ ?_ (fun hHeld => ?_)
          · (try dsimp only); exact KK.out _ (below_new BV.out _)
          clear hKx Kx
          try simp only [Act.put, List.setIfInBounds_toArray, List.set_cons_zero, List.set_cons_succ]
          have hlt9 := BV.out.size
          have p6 : ∀ g, Value.ownBlock v6 = some g → g < V1.heap.size := fun g e => (OW6.out.lt g e).2
          replace BV := Lib.hid (below_new BV.out (.cells #[.int .i64 (n3 : Int)] 3))
          replace OW6 := Lib.hid (OW6.out.alloc (.cells #[.int .i64 (n3 : Int)] 3))
          have A9 := Lib.hid (At.new V1 (.cells #[.int .i64 (n3 : Int)] 3))
          obtain ⟨Z9, hZ9⟩ : ∃ Z, Z = V1.heap.size := ⟨_, rfl⟩
          rw [← hZ9] at A9 hlt9 p6 ⊢
          clear hZ9
          have r6_9 := Lib.hid p6
          clear p6
          generalize World.alloc V1 _ = V2 at BV hHeld A9 OW6 ⊢
          refine lex_step3 (i := 10) (j := 14) (k := 17) rfl rfl rfl (by kernel_rfl) (by rfl) (by rfl) (by rfl) (fun Kx hKx => ?_) (fun Kx hKx => ?_) (fun Kx hKx => ?_)
          · (refine wp_append_lies V2 _ _ _ (by rfl) w2.heap.size 3 i0 (.int .i64 0) 1 8 Try.underlying22 hi hz0 hz1 hz2 rfl (by decide) v6 n1 (ms.map (Value.int .i64)) (by rfl) OW6.out ⟨Z9, 0, none⟩ 1 1 [.int .i64 (n3 : Int)] (by rfl) (by rfl) (World.news_of_block (cs := #[.int .i64 (n3 : Int)]) (t := 3) (fr := (0, 0)) A9.out) (by simp [Value.oneCell']) (by decide) (by unfold maxLen; omega) (by omega) BV.out.size _ rfl ?_; intro g10 cap10 V3 own10 hgrow hlies hglt)
            refine hKx.out _ _ ?_ (fun hHeld => ?_)
            · (try dsimp only); exact KK.out _ (BV.out.grown hgrow BV.out.size (fun b hb => (OW6.out.lt b hb).1))
            clear hKx Kx
            try simp only [Act.put, List.setIfInBounds_toArray, List.set_cons_zero, List.set_cons_succ]
            replace BV := Lib.hid (BV.out.grown hgrow BV.out.size (fun b hb => (OW6.out.lt b hb).1))
            obtain ⟨v10, hv10⟩ : ∃ v, v = Value.slice (some ⟨g10, 0, none⟩) (n1 + 1) cap10 := ⟨_, rfl⟩
            have HV10 := Lib.hid hv10
            rw [← hv10] at own10
            clear hv10
            have OW10 := Lib.hid own10
            clear own10 hgrow hlies hglt OW6 A9
            refine lex_step2 (i := 14) (j := 17) rfl rfl (by kernel_rfl) (by rfl) (by rfl) (fun Kx hKx => ?_) (fun Kx hKx => ?_)
            · go_simp
              refine hKx.out _ _ ?_ (fun hHeld => ?_)
              · (try dsimp only); exact KK.out _ (below_new BV.out _)
              clear hKx Kx
              try simp only [Act.put, List.setIfInBounds_toArray, List.set_cons_zero, List.set_cons_succ]
              have hlt14 := BV.out.size
              have p10 : ∀ g, Value.ownBlock v10 = some g → g < V3.heap.size := fun g e => (OW10.out.lt g e).2
              replace BV := Lib.hid (below_new BV.out (.cells #[.slice a2 n2 c2, .slice a3 n3 c3] 22))
              replace OW10 := Lib.hid (OW10.out.alloc (.cells #[.slice a2 n2 c2, .slice a3 n3 c3] 22))
              have A14 := Lib.hid (At.new V3 (.cells #[.slice a2 n2 c2, .slice a3 n3 c3] 22))
              obtain ⟨Z14, hZ14⟩ : ∃ Z, Z = V3.heap.size := ⟨_, rfl⟩
              rw [← hZ14] at A14 hlt14 p10 ⊢
              clear hZ14
              have r10_14 := Lib.hid p10
              clear p10
              generalize World.alloc V3 _ = V4 at BV hHeld A14 OW10 ⊢
              refine lex_step2 (i := 15) (j := 17) rfl rfl (by kernel_rfl) (by rfl) (by rfl) (fun Kx hKx => ?_) (fun Kx hKx => ?_)
              · (go_simp; go_at_call 22; refine (concat_ints V4 Z14 0 2 a2 a3 n2 c2 n3 c3 ss st A14.out.lt (A14.out.cell 0) (A14.out.cell 1) (ints_thenX HA2.out BV.out) (ints_thenX HA3.out BV.out) (by omega) (by omega) e2 e3).mono ?_; rintro e V5 ⟨v15, rfl, own15, hb15⟩; (obtain ⟨g15, cap15, rfl, hg15, hg15l⟩ := own15.form (by omega)); try go_wp2_with fail)
                refine hKx.out _ _ ?_ (fun hHeld => ?_)
                · (try dsimp only); exact KK.out _ (below_then BV.out hb15)
                clear hKx Kx
                try simp only [Act.put, List.setIfInBounds_toArray, List.set_cons_zero, List.set_cons_succ]
                have OW15 := Lib.hid (own_low own15 BV.out.size)
                replace OW10 := Lib.hid (own_thenI OW10.out hb15)
                replace BV := Lib.hid (below_then BV.out hb15)
                clear own15 hb15 hg15 hg15l A14
                refine lex_take (i := 16) (v := ?_) rfl (by kernel_rfl) (by kernel_rfl) (by kernel_rfl) (fun _ _ _ h => h) (by rfl) ?_ (by assumption) ?_
                rotate_left
                · (intro w hSw; (try dsimp only at hSw); go_simp; try with_reducible rfl)
                try simp only [Act.put, List.setIfInBounds_toArray, List.set_cons_zero, List.set_cons_succ]
                refine lex_step (i := 17) rfl (by kernel_rfl) (by rfl) (fun Kx hKx => ?_)
                go_simp
                refine hKx.out _ _ ?_ (fun hHeld => ?_)
                · (try dsimp only); exact KK.out _ (below_new BV.out _)
                clear hKx Kx
                try simp only [Act.put, List.setIfInBounds_toArray, List.set_cons_zero, List.set_cons_succ]
                have hlt17 := BV.out.size
                have p10 : ∀ g, Value.ownBlock v10 = some g → g < V5.heap.size := fun g e => (OW10.out.lt g e).2
                have p15 : ∀ g, Value.ownBlock (.slice (some ⟨g15, 0, none⟩) (n2 + n3) cap15) = some g → g < V5.heap.size := fun g e => (OW15.out.lt g e).2
                replace BV := Lib.hid (below_new BV.out (tabO ⟨#[]⟩ 0 none 0 0 none 0 0))
                replace OW10 := Lib.hid (OW10.out.alloc (tabO ⟨#[]⟩ 0 none 0 0 none 0 0))
                replace OW15 := Lib.hid (OW15.out.alloc (tabO ⟨#[]⟩ 0 none 0 0 none 0 0))
                have A17 := Lib.hid (At.new V5 (tabO ⟨#[]⟩ 0 none 0 0 none 0 0))
                obtain ⟨Z17, hZ17⟩ : ∃ Z, Z = V5.heap.size := ⟨_, rfl⟩
                rw [← hZ17] at A17 hlt17 p10 p15 ⊢
                clear hZ17
                have r10_17 := Lib.hid p10
                have r15_17 := Lib.hid p15
                clear p10 p15
                generalize World.alloc V5 _ = V6 at BV hHeld A17 OW10 OW15 ⊢
                have ne17_10 := Lib.hid (show Z17 ≠ g10 from fun e => by have := r10_17.out g10 (by rw [HV10.out]; rfl); omega)
                have ne17_15 := Lib.hid (show Z17 ≠ g15 from fun e => by have := r15_17.out g15 rfl; omega)
                have hv10 := HV10.out
                subst hv10
                exact hj Z17 g10 cap10 g15 cap15 v6 Z9 Z14 V6 ⟨A17.out, OW10.out, OW15.out, ne17_10.out, ne17_15.out, BV.out, hlt17⟩
              · go_simp
                refine hKx.out _ _ ?_ (fun hHeld => ?_)
                · (try dsimp only); exact KK.out _ (below_new BV.out _)
                clear hKx Kx
                try simp only [Act.put, List.setIfInBounds_toArray, List.set_cons_zero, List.set_cons_succ]
                have hlt17 := BV.out.size
                have p14 := A14.out.lt
                have p10 : ∀ g, Value.ownBlock v10 = some g → g < V4.heap.size := fun g e => (OW10.out.lt g e).2
                replace BV := Lib.hid (below_new BV.out (tabO ⟨#[]⟩ 0 none 0 0 none 0 0))
                replace A14 := Lib.hid (A14.out.alloc (tabO ⟨#[]⟩ 0 none 0 0 none 0 0))
                replace OW10 := Lib.hid (OW10.out.alloc (tabO ⟨#[]⟩ 0 none 0 0 none 0 0))
                have A17 := Lib.hid (At.new V4 (tabO ⟨#[]⟩ 0 none 0 0 none 0 0))
                obtain ⟨Z17, hZ17⟩ : ∃ Z, Z = V4.heap.size := ⟨_, rfl⟩
                rw [← hZ17] at A17 hlt17 p14 p10 ⊢
                clear hZ17
                have r14_17 := Lib.hid p14
                have r10_17 := Lib.hid p10
                clear p14 p10
                generalize World.alloc V4 _ = V5 at BV hHeld A17 A14 OW10 ⊢
                refine lex_step (i := 15) rfl (by kernel_rfl) (by rfl) (fun Kx hKx => ?_)
                (go_simp; go_at_call 22; refine (concat_ints V5 Z14 0 2 a2 a3 n2 c2 n3 c3 ss st A14.out.lt (A14.out.cell 0) (A14.out.cell 1) (ints_thenX HA2.out BV.out) (ints_thenX HA3.out BV.out) (by omega) (by omega) e2 e3).mono ?_; rintro e V6 ⟨v15, rfl, own15, hb15⟩; (obtain ⟨g15, cap15, rfl, hg15, hg15l⟩ := own15.form (by omega)); try go_wp2_with fail)
                refine hKx.out _ _ ?_ (fun hHeld => ?_)
                · (try dsimp only); exact KK.out _ (below_then BV.out hb15)
                clear hKx Kx
                try simp only [Act.put, List.setIfInBounds_toArray, List.set_cons_zero, List.set_cons_succ]
                have p17 := A17.out.lt
                have ne17_15 := Lib.hid (show Z17 ≠ g15 by omega)
                clear p17
                have OW15 := Lib.hid (own_low own15 BV.out.size)
                replace OW10 := Lib.hid (own_thenI OW10.out hb15)
                replace A17 := Lib.hid (A17.out.then_ hb15)
                replace BV := Lib.hid (below_then BV.out hb15)
                clear own15 hb15 hg15 hg15l A14
                refine lex_take (i := 16) (v := ?_) rfl (by kernel_rfl) (by kernel_rfl) (by kernel_rfl) (fun _ _ _ h => h) (by rfl) ?_ (by assumption) ?_
                rotate_left
                · (intro w hSw; (try dsimp only at hSw); go_simp; try with_reducible rfl)
                try simp only [Act.put, List.setIfInBounds_toArray, List.set_cons_zero, List.set_cons_succ]
                have ne17_10 := Lib.hid (show Z17 ≠ g10 from fun e => by have := r10_17.out g10 (by rw [HV10.out]; rfl); omega)
                have hv10 := HV10.out
                subst hv10
                exact hj Z17 g10 cap10 g15 cap15 v6 Z9 Z14 V6 ⟨A17.out, OW10.out, OW15.out, ne17_10.out, ne17_15.out, BV.out, hlt17⟩
            · go_simp
              refine hKx.out _ _ ?_ (fun hHeld => ?_)
              · (try dsimp only); exact KK.out _ (below_new BV.out _)
              clear hKx Kx
              try simp only [Act.put, List.setIfInBounds_toArray, List.set_cons_zero, List.set_cons_succ]
              have hlt17 := BV.out.size
              have p10 : ∀ g, Value.ownBlock v10 = some g → g < V3.heap.size := fun g e => (OW10.out.lt g e).2
              replace BV := Lib.hid (below_new BV.out (tabO ⟨#[]⟩ 0 none 0 0 none 0 0))
              replace OW10 := Lib.hid (OW10.out.alloc (tabO ⟨#[]⟩ 0 none 0 0 none 0 0))
              have A17 := Lib.hid (At.new V3 (tabO ⟨#[]⟩ 0 none 0 0 none 0 0))
              obtain ⟨Z17, hZ17⟩ : ∃ Z, Z = V3.heap.size := ⟨_, rfl⟩
              rw [← hZ17] at A17 hlt17 p10 ⊢
              clear hZ17
              have r10_17 := Lib.hid p10
              clear p10
              generalize World.alloc V3 _ = V4 at BV hHeld A17 OW10 ⊢
              refine lex_step (i := 14) rfl (by kernel_rfl) (by rfl) (fun Kx hKx => ?_)
              go_simp
              refine hKx.out _ _ ?_ (fun hHeld => ?_)
              · (try dsimp only); exact KK.out _ (below_new BV.out _)
              clear hKx Kx
              try simp only [Act.put, List.setIfInBounds_toArray, List.set_cons_zero, List.set_cons_succ]
              have hlt14 := BV.out.size
              have p17 := A17.out.lt
              have p10 : ∀ g, Value.ownBlock v10 = some g → g < V4.heap.size := fun g e => (OW10.out.lt g e).2
              replace BV := Lib.hid (below_new BV.out (.cells #[.slice a2 n2 c2, .slice a3 n3 c3] 22))
              replace A17 := Lib.hid (A17.out.alloc (.cells #[.slice a2 n2 c2, .slice a3 n3 c3] 22))
              replace OW10 := Lib.hid (OW10.out.alloc (.cells #[.slice a2 n2 c2, .slice a3 n3 c3] 22))
              have A14 := Lib.hid (At.new V4 (.cells #[.slice a2 n2 c2, .slice a3 n3 c3] 22))
              obtain ⟨Z14, hZ14⟩ : ∃ Z, Z = V4.heap.size := ⟨_, rfl⟩
              rw [← hZ14] at A14 hlt14 p17 p10 ⊢
              clear hZ14
              have r17_14 := Lib.hid p17
              have r10_14 := Lib.hid p10
              clear p17 p10
              generalize World.alloc V4 _ = V5 at BV hHeld A14 A17 OW10 ⊢
              refine lex_step (i := 15) rfl (by kernel_rfl) (by rfl) (fun Kx hKx => ?_)
              (go_simp; go_at_call 22; refine (concat_ints V5 Z14 0 2 a2 a3 n2 c2 n3 c3 ss st A14.out.lt (A14.out.cell 0) (A14.out.cell 1) (ints_thenX HA2.out BV.out) (ints_thenX HA3.out BV.out) (by omega) (by omega) e2 e3).mono ?_; rintro e V6 ⟨v15, rfl, own15, hb15⟩; (obtain ⟨g15, cap15, rfl, hg15, hg15l⟩ := own15.form (by omega)); try go_wp2_with fail)
              refine hKx.out _ _ ?_ (fun hHeld => ?_)
              · (try dsimp only); exact KK.out _ (below_then BV.out hb15)
              clear hKx Kx
              try simp only [Act.put, List.setIfInBounds_toArray, List.set_cons_zero, List.set_cons_succ]
              have p17 := A17.out.lt
              have ne17_15 := Lib.hid (show Z17 ≠ g15 by omega)
              clear p17
              have OW15 := Lib.hid (own_low own15 BV.out.size)
              replace OW10 := Lib.hid (own_thenI OW10.out hb15)
              replace A17 := Lib.hid (A17.out.then_ hb15)
              replace BV := Lib.hid (below_then BV.out hb15)
              clear own15 hb15 hg15 hg15l A14
              refine lex_take (i := 16) (v := ?_) rfl (by kernel_rfl) (by kernel_rfl) (by kernel_rfl) (fun _ _ _ h => h) (by rfl) ?_ (by assumption) ?_
              rotate_left
              · (intro w hSw; (try dsimp only at hSw); go_simp; try with_reducible rfl)
              try simp only [Act.put, List.setIfInBounds_toArray, List.set_cons_zero, List.set_cons_succ]
              have ne17_10 := Lib.hid (show Z17 ≠ g10 from fun e => by have := r10_17.out g10 (by rw [HV10.out]; rfl); omega)
              have hv10 := HV10.out
              subst hv10
              exact hj Z17 g10 cap10 g15 cap15 v6 Z9 Z14 V6 ⟨A17.out, OW10.out, OW15.out, ne17_10.out, ne17_15.out, BV.out, hlt17⟩
          · go_simp
            refine hKx.out _ _ ?_ (fun hHeld => ?_)
            · (try dsimp only); exact KK.out _ (below_new BV.out _)
            clear hKx Kx
            try simp only [Act.put, List.setIfInBounds_toArray, List.set_cons_zero, List.set_cons_succ]
            have hlt14 := BV.out.size
            have p9 := A9.out.lt
            have p6 : ∀ g, Value.ownBlock v6 = some g → g < V2.heap.size := fun g e => (OW6.out.lt g e).2
            replace BV := Lib.hid (below_new BV.out (.cells #[.slice a2 n2 c2, .slice a3 n3 c3] 22))
            replace A9 := Lib.hid (A9.out.alloc (.cells #[.slice a2 n2 c2, .slice a3 n3 c3] 22))
            replace OW6 := Lib.hid (OW6.out.alloc (.cells #[.slice a2 n2 c2, .slice a3 n3 c3] 22))
            have A14 := Lib.hid (At.new V2 (.cells #[.slice a2 n2 c2, .slice a3 n3 c3] 22))
            obtain ⟨Z14, hZ14⟩ : ∃ Z, Z = V2.heap.size := ⟨_, rfl⟩
            rw [← hZ14] at A14 hlt14 p9 p6 ⊢
            clear hZ14
            have r9_14 := Lib.hid p9
            have r6_14 := Lib.hid p6
            clear p9 p6
            generalize World.alloc V2 _ = V3 at BV hHeld A14 A9 OW6 ⊢
            refine lex_step2 (i := 10) (j := 17) rfl rfl (by kernel_rfl) (by rfl) (by rfl) (fun Kx hKx => ?_) (fun Kx hKx => ?_)
            · (refine wp_append_lies V3 _ _ _ (by rfl) w2.heap.size 3 i0 (.int .i64 0) 1 8 Try.underlying22 hi hz0 hz1 hz2 rfl (by decide) v6 n1 (ms.map (Value.int .i64)) (by rfl) OW6.out ⟨Z9, 0, none⟩ 1 1 [.int .i64 (n3 : Int)] (by rfl) (by rfl) (World.news_of_block (cs := #[.int .i64 (n3 : Int)]) (t := 3) (fr := (0, 0)) A9.out) (by simp [Value.oneCell']) (by decide) (by unfold maxLen; omega) (by omega) BV.out.size _ rfl ?_; intro g10 cap10 V4 own10 hgrow hlies hglt)
              refine hKx.out _ _ ?_ (fun hHeld => ?_)
              · (try dsimp only); exact KK.out _ (BV.out.grown hgrow BV.out.size (fun b hb => (OW6.out.lt b hb).1))
              clear hKx Kx
              try simp only [Act.put, List.setIfInBounds_toArray, List.set_cons_zero, List.set_cons_succ]
              replace A14 := Lib.hid (show At V4 Z14 _ from (hgrow.block Z14 A14.out.lt (fun e => by have := r6_14.out Z14 e.symm; omega)).trans A14.out)
              replace BV := Lib.hid (BV.out.grown hgrow BV.out.size (fun b hb => (OW6.out.lt b hb).1))
              obtain ⟨v10, hv10⟩ : ∃ v, v = Value.slice (some ⟨g10, 0, none⟩) (n1 + 1) cap10 := ⟨_, rfl⟩
              have HV10 := Lib.hid hv10
              rw [← hv10] at own10
              clear hv10
              have OW10 := Lib.hid own10
              clear own10 hgrow hlies hglt OW6 A9
              refine lex_step2 (i := 15) (j := 17) rfl rfl (by kernel_rfl) (by rfl) (by rfl) (fun Kx hKx => ?_) (fun Kx hKx => ?_)
              · (go_simp; go_at_call 22; refine (concat_ints V4 Z14 0 2 a2 a3 n2 c2 n3 c3 ss st A14.out.lt (A14.out.cell 0) (A14.out.cell 1) (ints_thenX HA2.out BV.out) (ints_thenX HA3.out BV.out) (by omega) (by omega) e2 e3).mono ?_; rintro e V5 ⟨v15, rfl, own15, hb15⟩; (obtain ⟨g15, cap15, rfl, hg15, hg15l⟩ := own15.form (by omega)); try go_wp2_with fail)
                refine hKx.out _ _ ?_ (fun hHeld => ?_)
                · (try dsimp only); exact KK.out _ (below_then BV.out hb15)
                clear hKx Kx
                try simp only [Act.put, List.setIfInBounds_toArray, List.set_cons_zero, List.set_cons_succ]
                have OW15 := Lib.hid (own_low own15 BV.out.size)
                replace OW10 := Lib.hid (own_thenI OW10.out hb15)
                replace BV := Lib.hid (below_then BV.out hb15)
                clear own15 hb15 hg15 hg15l A14
                refine lex_take (i := 16) (v := ?_) rfl (by kernel_rfl) (by kernel_rfl) (by kernel_rfl) (fun _ _ _ h => h) (by rfl) ?_ (by assumption) ?_
                rotate_left
                · (intro w hSw; (try dsimp only at hSw); go_simp; try with_reducible rfl)
                try simp only [Act.put, List.setIfInBounds_toArray, List.set_cons_zero, List.set_cons_succ]
                refine lex_step (i := 17) rfl (by kernel_rfl) (by rfl) (fun Kx hKx => ?_)
                go_simp
                refine hKx.out _ _ ?_ (fun hHeld => ?_)
                · (try dsimp only); exact KK.out _ (below_new BV.out _)
                clear hKx Kx
                try simp only [Act.put, List.setIfInBounds_toArray, List.set_cons_zero, List.set_cons_succ]
                have hlt17 := BV.out.size
                have p10 : ∀ g, Value.ownBlock v10 = some g → g < V5.heap.size := fun g e => (OW10.out.lt g e).2
                have p15 : ∀ g, Value.ownBlock (.slice (some ⟨g15, 0, none⟩) (n2 + n3) cap15) = some g → g < V5.heap.size := fun g e => (OW15.out.lt g e).2
                replace BV := Lib.hid (below_new BV.out (tabO ⟨#[]⟩ 0 none 0 0 none 0 0))
                replace OW10 := Lib.hid (OW10.out.alloc (tabO ⟨#[]⟩ 0 none 0 0 none 0 0))
                replace OW15 := Lib.hid (OW15.out.alloc (tabO ⟨#[]⟩ 0 none 0 0 none 0 0))
                have A17 := Lib.hid (At.new V5 (tabO ⟨#[]⟩ 0 none 0 0 none 0 0))
                obtain ⟨Z17, hZ17⟩ : ∃ Z, Z = V5.heap.size := ⟨_, rfl⟩
                rw [← hZ17] at A17 hlt17 p10 p15 ⊢
                clear hZ17
                have r10_17 := Lib.hid p10
                have r15_17 := Lib.hid p15
                clear p10 p15
                generalize World.alloc V5 _ = V6 at BV hHeld A17 OW10 OW15 ⊢
                have ne17_10 := Lib.hid (show Z17 ≠ g10 from fun e => by have := r10_17.out g10 (by rw [HV10.out]; rfl); omega)
                have ne17_15 := Lib.hid (show Z17 ≠ g15 from fun e => by have := r15_17.out g15 rfl; omega)
                have hv10 := HV10.out
                subst hv10
                exact hj Z17 g10 cap10 g15 cap15 v6 Z9 Z14 V6 ⟨A17.out, OW10.out, OW15.out, ne17_10.out, ne17_15.out, BV.out, hlt17⟩
              · go_simp
                refine hKx.out _ _ ?_ (fun hHeld => ?_)
                · (try dsimp only); exact KK.out _ (below_new BV.out _)
                clear hKx Kx
                try simp only [Act.put, List.setIfInBounds_toArray, List.set_cons_zero, List.set_cons_succ]
                have hlt17 := BV.out.size
                have p14 := A14.out.lt
                have p10 : ∀ g, Value.ownBlock v10 = some g → g < V4.heap.size := fun g e => (OW10.out.lt g e).2
                replace BV := Lib.hid (below_new BV.out (tabO ⟨#[]⟩ 0 none 0 0 none 0 0))
                replace A14 := Lib.hid (A14.out.alloc (tabO ⟨#[]⟩ 0 none 0 0 none 0 0))
                replace OW10 := Lib.hid (OW10.out.alloc (tabO ⟨#[]⟩ 0 none 0 0 none 0 0))
                have A17 := Lib.hid (At.new V4 (tabO ⟨#[]⟩ 0 none 0 0 none 0 0))
                obtain ⟨Z17, hZ17⟩ : ∃ Z, Z = V4.heap.size := ⟨_, rfl⟩
                rw [← hZ17] at A17 hlt17 p14 p10 ⊢
                clear hZ17
                have r14_17 := Lib.hid p14
                have r10_17 := Lib.hid p10
                clear p14 p10
                generalize World.alloc V4 _ = V5 at BV hHeld A17 A14 OW10 ⊢
                refine lex_step (i := 15) rfl (by kernel_rfl) (by rfl) (fun Kx hKx => ?_)
                (go_simp; go_at_call 22; refine (concat_ints V5 Z14 0 2 a2 a3 n2 c2 n3 c3 ss st A14.out.lt (A14.out.cell 0) (A14.out.cell 1) (ints_thenX HA2.out BV.out) (ints_thenX HA3.out BV.out) (by omega) (by omega) e2 e3).mono ?_; rintro e V6 ⟨v15, rfl, own15, hb15⟩; (obtain ⟨g15, cap15, rfl, hg15, hg15l⟩ := own15.form (by omega)); try go_wp2_with fail)
                refine hKx.out _ _ ?_ (fun hHeld => ?_)
                · (try dsimp only); exact KK.out _ (below_then BV.out hb15)
                clear hKx Kx
                try simp only [Act.put, List.setIfInBounds_toArray, List.set_cons_zero, List.set_cons_succ]
                have p17 := A17.out.lt
                have ne17_15 := Lib.hid (show Z17 ≠ g15 by omega)
                clear p17
                have OW15 := Lib.hid (own_low own15 BV.out.size)
                replace OW10 := Lib.hid (own_thenI OW10.out hb15)
                replace A17 := Lib.hid (A17.out.then_ hb15)
                replace BV := Lib.hid (below_then BV.out hb15)
                clear own15 hb15 hg15 hg15l A14
                refine lex_take (i := 16) (v := ?_) rfl (by kernel_rfl) (by kernel_rfl) (by kernel_rfl) (fun _ _ _ h => h) (by rfl) ?_ (by assumption) ?_
                rotate_left
                · (intro w hSw; (try dsimp only at hSw); go_simp; try with_reducible rfl)
                try simp only [Act.put, List.setIfInBounds_toArray, List.set_cons_zero, List.set_cons_succ]
                have ne17_10 := Lib.hid (show Z17 ≠ g10 from fun e => by have := r10_17.out g10 (by rw [HV10.out]; rfl); omega)
                have hv10 := HV10.out
                subst hv10
                exact hj Z17 g10 cap10 g15 cap15 v6 Z9 Z14 V6 ⟨A17.out, OW10.out, OW15.out, ne17_10.out, ne17_15.out, BV.out, hlt17⟩
            · go_simp
              refine hKx.out _ _ ?_ (fun hHeld => ?_)
              · (try dsimp only); exact KK.out _ (below_new BV.out _)
              clear hKx Kx
              try simp only [Act.put, List.setIfInBounds_toArray, List.set_cons_zero, List.set_cons_succ]
              have hlt17 := BV.out.size
              have p9 := A9.out.lt
              have p14 := A14.out.lt
              have p6 : ∀ g, Value.ownBlock v6 = some g → g < V3.heap.size := fun g e => (OW6.out.lt g e).2
              replace BV := Lib.hid (below_new BV.out (tabO ⟨#[]⟩ 0 none 0 0 none 0 0))
              replace A9 := Lib.hid (A9.out.alloc (tabO ⟨#[]⟩ 0 none 0 0 none 0 0))
              replace A14 := Lib.hid (A14.out.alloc (tabO ⟨#[]⟩ 0 none 0 0 none 0 0))
              replace OW6 := Lib.hid (OW6.out.alloc (tabO ⟨#[]⟩ 0 none 0 0 none 0 0))
              have A17 := Lib.hid (At.new V3 (tabO ⟨#[]⟩ 0 none 0 0 none 0 0))
              obtain ⟨Z17, hZ17⟩ : ∃ Z, Z = V3.heap.size := ⟨_, rfl⟩
              rw [← hZ17] at A17 hlt17 p9 p14 p6 ⊢
              clear hZ17
              have r9_17 := Lib.hid p9
              have r14_17 := Lib.hid p14
              have r6_17 := Lib.hid p6
              clear p9 p14 p6
              generalize World.alloc V3 _ = V4 at BV hHeld A17 A9 A14 OW6 ⊢
              refine lex_step (i := 10) rfl (by kernel_rfl) (by rfl) (fun Kx hKx => ?_)
              have p17b := Lib.hid A17.out.lt
              (refine wp_append_lies V4 _ _ _ (by rfl) w2.heap.size 3 i0 (.int .i64 0) 1 8 Try.underlying22 hi hz0 hz1 hz2 rfl (by decide) v6 n1 (ms.map (Value.int .i64)) (by rfl) OW6.out ⟨Z9, 0, none⟩ 1 1 [.int .i64 (n3 : Int)] (by rfl) (by rfl) (World.news_of_block (cs := #[.int .i64 (n3 : Int)]) (t := 3) (fr := (0, 0)) A9.out) (by simp [Value.oneCell']) (by decide) (by unfold maxLen; omega) (by omega) BV.out.size _ rfl ?_; intro g10 cap10 V5 own10 hgrow hlies hglt)
              refine hKx.out _ _ ?_ (fun hHeld => ?_)
              · (try dsimp only); exact KK.out _ (BV.out.grown hgrow BV.out.size (fun b hb => (OW6.out.lt b hb).1))
              clear hKx Kx
              try simp only [Act.put, List.setIfInBounds_toArray, List.set_cons_zero, List.set_cons_succ]
              replace A14 := Lib.hid (show At V5 Z14 _ from (hgrow.block Z14 A14.out.lt (fun e => by have := r6_14.out Z14 e.symm; omega)).trans A14.out)
              replace A17 := Lib.hid (show At V5 Z17 _ from (hgrow.block Z17 A17.out.lt (fun e => by have := r6_17.out Z17 e.symm; omega)).trans A17.out)
              have ne17_10 := Lib.hid (show Z17 ≠ g10 from fun e => by
                have hl := p17b.out
                rcases hlies with h | h
                · have := r6_17.out g10 h; omega
                · omega)
              replace BV := Lib.hid (BV.out.grown hgrow BV.out.size (fun b hb => (OW6.out.lt b hb).1))
              obtain ⟨v10, hv10⟩ : ∃ v, v = Value.slice (some ⟨g10, 0, none⟩) (n1 + 1) cap10 := ⟨_, rfl⟩
              have HV10 := Lib.hid hv10
              rw [← hv10] at own10
              clear hv10
              have OW10 := Lib.hid own10
              clear own10 hgrow hlies hglt OW6 A9
              refine lex_step (i := 15) rfl (by kernel_rfl) (by rfl) (fun Kx hKx => ?_)
              (go_simp; go_at_call 22; refine (concat_ints V5 Z14 0 2 a2 a3 n2 c2 n3 c3 ss st A14.out.lt (A14.out.cell 0) (A14.out.cell 1) (ints_thenX HA2.out BV.out) (ints_thenX HA3.out BV.out) (by omega) (by omega) e2 e3).mono ?_; rintro e V6 ⟨v15, rfl, own15, hb15⟩; (obtain ⟨g15, cap15, rfl, hg15, hg15l⟩ := own15.form (by omega)); try go_wp2_with fail)
              refine hKx.out _ _ ?_ (fun hHeld => ?_)
              · (try dsimp only); exact KK.out _ (below_then BV.out hb15)
              clear hKx Kx
              try simp only [Act.put, List.setIfInBounds_toArray, List.set_cons_zero, List.set_cons_succ]
              have p17 := A17.out.lt
              have ne17_15 := Lib.hid (show Z17 ≠ g15 by omega)
              clear p17
              have OW15 := Lib.hid (own_low own15 BV.out.size)
              replace OW10 := Lib.hid (own_thenI OW10.out hb15)
              replace A17 := Lib.hid (A17.out.then_ hb15)
              replace BV := Lib.hid (below_then BV.out hb15)
              clear own15 hb15 hg15 hg15l A14
              refine lex_take (i := 16) (v := ?_) rfl (by kernel_rfl) (by kernel_rfl) (by kernel_rfl) (fun _ _ _ h => h) (by rfl) ?_ (by assumption) ?_
              rotate_left
              · (intro w hSw; (try dsimp only at hSw); go_simp; try with_reducible rfl)
              try simp only [Act.put, List.setIfInBounds_toArray, List.set_cons_zero, List.set_cons_succ]
              have hv10 := HV10.out
              subst hv10
              exact hj Z17 g10 cap10 g15 cap15 v6 Z9 Z14 V6 ⟨A17.out, OW10.out, OW15.out, ne17_10.out, ne17_15.out, BV.out, hlt17⟩
          · go_simp
            refine hKx.out _ _ ?_ (fun hHeld => ?_)
            · (try dsimp only); exact KK.out _ (below_new BV.out _)
            clear hKx Kx
            try simp only [Act.put, List.setIfInBounds_toArray, List.set_cons_zero, List.set_cons_succ]
            have hlt17 := BV.out.size
            have p9 := A9.out.lt
            have p6 : ∀ g, Value.ownBlock v6 = some g → g < V2.heap.size := fun g e => (OW6.out.lt g e).2
            replace BV := Lib.hid (below_new BV.out (tabO ⟨#[]⟩ 0 none 0 0 none 0 0))
            replace A9 := Lib.hid (A9.out.alloc (tabO ⟨#[]⟩ 0 none 0 0 none 0 0))
            replace OW6 := Lib.hid (OW6.out.alloc (tabO ⟨#[]⟩ 0 none 0 0 none 0 0))
            have A17 := Lib.hid (At.new V2 (tabO ⟨#[]⟩ 0 none 0 0 none 0 0))
            obtain ⟨Z17, hZ17⟩ : ∃ Z, Z = V2.heap.size := ⟨_, rfl⟩
            rw [← hZ17] at A17 hlt17 p9 p6 ⊢
            clear hZ17
            have r9_17 := Lib.hid p9
            have r6_17 := Lib.hid p6
            clear p9 p6
            generalize World.alloc V2 _ = V3 at BV hHeld A17 A9 OW6 ⊢
            refine lex_step2 (i := 10) (j := 14) rfl rfl (by kernel_rfl) (by rfl) (by rfl) (fun Kx hKx => ?_) (fun Kx hKx => ?_)
            · have p17b := Lib.hid A17.out.lt
              (refine wp_append_lies V3 _ _ _ (by rfl) w2.heap.size 3 i0 (.int .i64 0) 1 8 Try.underlying22 hi hz0 hz1 hz2 rfl (by decide) v6 n1 (ms.map (Value.int .i64)) (by rfl) OW6.out ⟨Z9, 0, none⟩ 1 1 [.int .i64 (n3 : Int)] (by rfl) (by rfl) (World.news_of_block (cs := #[.int .i64 (n3 : Int)]) (t := 3) (fr := (0, 0)) A9.out) (by simp [Value.oneCell']) (by decide) (by unfold maxLen; omega) (by omega) BV.out.size _ rfl ?_; intro g10 cap10 V4 own10 hgrow hlies hglt)
              refine hKx.out _ _ ?_ (fun hHeld => ?_)
              · (try dsimp only); exact KK.out _ (BV.out.grown hgrow BV.out.size (fun b hb => (OW6.out.lt b hb).1))
              clear hKx Kx
              try simp only [Act.put, List.setIfInBounds_toArray, List.set_cons_zero, List.set_cons_succ]
              replace A17 := Lib.hid (show At V4 Z17 _ from (hgrow.block Z17 A17.out.lt (fun e => by have := r6_17.out Z17 e.symm; omega)).trans A17.out)
              have ne17_10 := Lib.hid (show Z17 ≠ g10 from fun e => by
                have hl := p17b.out
                rcases hlies with h | h
                · have := r6_17.out g10 h; omega
                · omega)
              replace BV := Lib.hid (BV.out.grown hgrow BV.out.size (fun b hb => (OW6.out.lt b hb).1))
              obtain ⟨v10, hv10⟩ : ∃ v, v = Value.slice (some ⟨g10, 0, none⟩) (n1 + 1) cap10 := ⟨_, rfl⟩
              have HV10 := Lib.hid hv10
              rw [← hv10] at own10
              clear hv10
              have OW10 := Lib.hid own10
              clear own10 hgrow hlies hglt OW6 A9
              refine lex_step (i := 14) rfl (by kernel_rfl) (by rfl) (fun Kx hKx => ?_)
              go_simp
              refine hKx.out _ _ ?_ (fun hHeld => ?_)
              · (try dsimp only); exact KK.out _ (below_new BV.out _)
              clear hKx Kx
              try simp only [Act.put, List.setIfInBounds_toArray, List.set_cons_zero, List.set_cons_succ]
              have hlt14 := BV.out.size
              have p17 := A17.out.lt
              have p10 : ∀ g, Value.ownBlock v10 = some g → g < V4.heap.size := fun g e => (OW10.out.lt g e).2
              replace BV := Lib.hid (below_new BV.out (.cells #[.slice a2 n2 c2, .slice a3 n3 c3] 22))
              replace A17 := Lib.hid (A17.out.alloc (.cells #[.slice a2 n2 c2, .slice a3 n3 c3] 22))
              replace OW10 := Lib.hid (OW10.out.alloc (.cells #[.slice a2 n2 c2, .slice a3 n3 c3] 22))
              have A14 := Lib.hid (At.new V4 (.cells #[.slice a2 n2 c2, .slice a3 n3 c3] 22))
              obtain ⟨Z14, hZ14⟩ : ∃ Z, Z = V4.heap.size := ⟨_, rfl⟩
              rw [← hZ14] at A14 hlt14 p17 p10 ⊢
              clear hZ14
              have r17_14 := Lib.hid p17
              have r10_14 := Lib.hid p10
              clear p17 p10
              generalize World.alloc V4 _ = V5 at BV hHeld A14 A17 OW10 ⊢
              refine lex_step (i := 15) rfl (by kernel_rfl) (by rfl) (fun Kx hKx => ?_)
              (go_simp; go_at_call 22; refine (concat_ints V5 Z14 0 2 a2 a3 n2 c2 n3 c3 ss st A14.out.lt (A14.out.cell 0) (A14.out.cell 1) (ints_thenX HA2.out BV.out) (ints_thenX HA3.out BV.out) (by omega) (by omega) e2 e3).mono ?_; rintro e V6 ⟨v15, rfl, own15, hb15⟩; (obtain ⟨g15, cap15, rfl, hg15, hg15l⟩ := own15.form (by omega)); try go_wp2_with fail)
              refine hKx.out _ _ ?_ (fun hHeld => ?_)
              · (try dsimp only); exact KK.out _ (below_then BV.out hb15)
              clear hKx Kx
              try simp only [Act.put, List.setIfInBounds_toArray, List.set_cons_zero, List.set_cons_succ]
              have p17 := A17.out.lt
              have ne17_15 := Lib.hid (show Z17 ≠ g15 by omega)
              clear p17
              have OW15 := Lib.hid (own_low own15 BV.out.size)
              replace OW10 := Lib.hid (own_thenI OW10.out hb15)
              replace A17 := Lib.hid (A17.out.then_ hb15)
              replace BV := Lib.hid (below_then BV.out hb15)
              clear own15 hb15 hg15 hg15l A14
              refine lex_take (i := 16) (v := ?_) rfl (by kernel_rfl) (by kernel_rfl) (by kernel_rfl) (fun _ _ _ h => h) (by rfl) ?_ (by assumption) ?_
              rotate_left
              · (intro w hSw; (try dsimp only at hSw); go_simp; try with_reducible rfl)
              try simp only [Act.put, List.setIfInBounds_toArray, List.set_cons_zero, List.set_cons_succ]
              have hv10 := HV10.out
              subst hv10
              exact hj Z17 g10 cap10 g15 cap15 v6 Z9 Z14 V6 ⟨A17.out, OW10.out, OW15.out, ne17_10.out, ne17_15.out, BV.out, hlt17⟩
            · go_simp
              refine hKx.out _ _ ?_ (fun hHeld => ?_)
              · (try dsimp only); exact KK.out _ (below_new BV.out _)
              clear hKx Kx
              try simp only [Act.put, List.setIfInBounds_toArray, List.set_cons_zero, List.set_cons_succ]
              have hlt14 := BV.out.size
              have p9 := A9.out.lt
              have p17 := A17.out.lt
              have p6 : ∀ g, Value.ownBlock v6 = some g → g < V3.heap.size := fun g e => (OW6.out.lt g e).2
              replace BV := Lib.hid (below_new BV.out (.cells #[.slice a2 n2 c2, .slice a3 n3 c3] 22))
              replace A9 := Lib.hid (A9.out.alloc (.cells #[.slice a2 n2 c2, .slice a3 n3 c3] 22))
              replace A17 := Lib.hid (A17.out.alloc (.cells #[.slice a2 n2 c2, .slice a3 n3 c3] 22))
              replace OW6 := Lib.hid (OW6.out.alloc (.cells #[.slice a2 n2 c2, .slice a3 n3 c3] 22))
              have A14 := Lib.hid (At.new V3 (.cells #[.slice a2 n2 c2, .slice a3 n3 c3] 22))
              obtain ⟨Z14, hZ14⟩ : ∃ Z, Z = V3.heap.size := ⟨_, rfl⟩
              rw [← hZ14] at A14 hlt14 p9 p17 p6 ⊢
              clear hZ14
              have r9_14 := Lib.hid p9
              have r17_14 := Lib.hid p17
              have r6_14 := Lib.hid p6
              clear p9 p17 p6
              generalize World.alloc V3 _ = V4 at BV hHeld A14 A9 A17 OW6 ⊢
              refine lex_step (i := 10) rfl (by kernel_rfl) (by rfl) (fun Kx hKx => ?_)
              have p17b := Lib.hid A17.out.lt
              (refine wp_append_lies V4 _ _ _ (by rfl) w2.heap.size 3 i0 (.int .i64 0) 1 8 Try.underlying22 hi hz0 hz1 hz2 rfl (by decide) v6 n1 (ms.map (Value.int .i64)) (by rfl) OW6.out ⟨Z9, 0, none⟩ 1 1 [.int .i64 (n3 : Int)] (by rfl) (by rfl) (World.news_of_block (cs := #[.int .i64 (n3 : Int)]) (t := 3) (fr := (0, 0)) A9.out) (by simp [Value.oneCell']) (by decide) (by unfold maxLen; omega) (by omega) BV.out.size _ rfl ?_; intro g10 cap10 V5 own10 hgrow hlies hglt)
              refine hKx.out _ _ ?_ (fun hHeld => ?_)
              · (try dsimp only); exact KK.out _ (BV.out.grown hgrow BV.out.size (fun b hb => (OW6.out.lt b hb).1))
              clear hKx Kx
              try simp only [Act.put, List.setIfInBounds_toArray, List.set_cons_zero, List.set_cons_succ]
              replace A14 := Lib.hid (show At V5 Z14 _ from (hgrow.block Z14 A14.out.lt (fun e => by have := r6_14.out Z14 e.symm; omega)).trans A14.out)
              replace A17 := Lib.hid (show At V5 Z17 _ from (hgrow.block Z17 A17.out.lt (fun e => by have := r6_17.out Z17 e.symm; omega)).trans A17.out)
              have ne17_10 := Lib.hid (show Z17 ≠ g10 from fun e => by
                have hl := p17b.out
                rcases hlies with h | h
                · have := r6_17.out g10 h; omega
                · omega)
              replace BV := Lib.hid (BV.out.grown hgrow BV.out.size (fun b hb => (OW6.out.lt b hb).1))
              obtain ⟨v10, hv10⟩ : ∃ v, v = Value.slice (some ⟨g10, 0, none⟩) (n1 + 1) cap10 := ⟨_, rfl⟩
              have HV10 := Lib.hid hv10
              rw [← hv10] at own10
              clear hv10
              have OW10 := Lib.hid own10
              clear own10 hgrow hlies hglt OW6 A9
              refine lex_step (i := 15) rfl (by kernel_rfl) (by rfl) (fun Kx hKx => ?_)
              (go_simp; go_at_call 22; refine (concat_ints V5 Z14 0 2 a2 a3 n2 c2 n3 c3 ss st A14.out.lt (A14.out.cell 0) (A14.out.cell 1) (ints_thenX HA2.out BV.out) (ints_thenX HA3.out BV.out) (by omega) (by omega) e2 e3).mono ?_; rintro e V6 ⟨v15, rfl, own15, hb15⟩; (obtain ⟨g15, cap15, rfl, hg15, hg15l⟩ := own15.form (by omega)); try go_wp2_with fail)
              refine hKx.out _ _ ?_ (fun hHeld => ?_)
              · (try dsimp only); exact KK.out _ (below_then BV.out hb15)
              clear hKx Kx
              try simp only [Act.put, List.setIfInBounds_toArray, List.set_cons_zero, List.set_cons_succ]
              have p17 := A17.out.lt
              have ne17_15 := Lib.hid (show Z17 ≠ g15 by omega)
              clear p17
              have OW15 := Lib.hid (own_low own15 BV.out.size)
              replace OW10 := Lib.hid (own_thenI OW10.out hb15)
              replace A17 := Lib.hid (A17.out.then_ hb15)
              replace BV := Lib.hid (below_then BV.out hb15)
              clear own15 hb15 hg15 hg15l A14
              refine lex_take (i := 16) (v := ?_) rfl (by kernel_rfl) (by kernel_rfl) (by kernel_rfl) (fun _ _ _ h => h) (by rfl) ?_ (by assumption) ?_
              rotate_left
              · (intro w hSw; (try dsimp only at hSw); go_simp; try with_reducible rfl)
              try simp only [Act.put, List.setIfInBounds_toArray, List.set_cons_zero, List.set_cons_succ]
              have hv10 := HV10.out
              subst hv10
              exact hj Z17 g10 cap10 g15 cap15 v6 Z9 Z14 V6 ⟨A17.out, OW10.out, OW15.out, ne17_10.out, ne17_15.out, BV.out, hlt17⟩
        · as_aux_lemma =>
          go_simp
          refine hKx.out _ _ ?_ (fun hHeld => ?_)
          · (try dsimp only); exact KK.out _ (below_new BV.out _)
          clear hKx Kx
          try simp only [Act.put, List.setIfInBounds_toArray, List.set_cons_zero, List.set_cons_succ]
          have hlt14 := BV.out.size
          have p6 : ∀ g, Value.ownBlock v6 = some g → g < V1.heap.size := fun g e => (OW6.out.lt g e).2
          replace BV := Lib.hid (below_new BV.out (.cells #[.slice a2 n2 c2, .slice a3 n3 c3] 22))
          replace OW6 := Lib.hid (OW6.out.alloc (.cells #[.slice a2 n2 c2, .slice a3 n3 c3] 22))
          have A14 := Lib.hid (At.new V1 (.cells #[.slice a2 n2 c2, .slice a3 n3 c3] 22))
          obtain ⟨Z14, hZ14⟩ : ∃ Z, Z = V1.heap.size := ⟨_, rfl⟩
          rw [← hZ14] at A14 hlt14 p6 ⊢
          clear hZ14
          have r6_14 := Lib.hid p6
          clear p6
          generalize World.alloc V1 _ = V2 at BV hHeld A14 OW6 ⊢
          refine lex_step2 (i := 9) (j := 17) rfl rfl (by kernel_rfl) (by rfl) (by rfl) (fun Kx hKx => ?_) (fun Kx hKx => ?_)
          · go_simp
            refine hKx.out _ _ ?_ (fun hHeld => ?_)
            · (try dsimp only); exact KK.out _ (below_new BV.out _)
            clear hKx Kx
            try simp only [Act.put, List.setIfInBounds_toArray, List.set_cons_zero, List.set_cons_succ]
            have hlt9 := BV.out.size
            have p14 := A14.out.lt
            have p6 : ∀ g, Value.ownBlock v6 = some g → g < V2.heap.size := fun g e => (OW6.out.lt g e).2
            replace BV := Lib.hid (below_new BV.out (.cells #[.int .i64 (n3 : Int)] 3))
            replace A14 := Lib.hid (A14.out.alloc (.cells #[.int .i64 (n3 : Int)] 3))
            replace OW6 := Lib.hid (OW6.out.alloc (.cells #[.int .i64 (n3 : Int)] 3))
            have A9 := Lib.hid (At.new V2 (.cells #[.int .i64 (n3 : Int)] 3))
            obtain ⟨Z9, hZ9⟩ : ∃ Z, Z = V2.heap.size := ⟨_, rfl⟩
            rw [← hZ9] at A9 hlt9 p14 p6 ⊢
            clear hZ9
            have r14_9 := Lib.hid p14
            have r6_9 := Lib.hid p6
            clear p14 p6
            generalize World.alloc V2 _ = V3 at BV hHeld A9 A14 OW6 ⊢
            refine lex_step2 (i := 10) (j := 17) rfl rfl (by kernel_rfl) (by rfl) (by rfl) (fun Kx hKx => ?_) (fun Kx hKx => ?_)
            · (refine wp_append_lies V3 _ _ _ (by rfl) w2.heap.size 3 i0 (.int .i64 0) 1 8 Try.underlying22 hi hz0 hz1 hz2 rfl (by decide) v6 n1 (ms.map (Value.int .i64)) (by rfl) OW6.out ⟨Z9, 0, none⟩ 1 1 [.int .i64 (n3 : Int)] (by rfl) (by rfl) (World.news_of_block (cs := #[.int .i64 (n3 : Int)]) (t := 3) (fr := (0, 0)) A9.out) (by simp [Value.oneCell']) (by decide) (by unfold maxLen; omega) (by omega) BV.out.size _ rfl ?_; intro g10 cap10 V4 own10 hgrow hlies hglt)
              refine hKx.out _ _ ?_ (fun hHeld => ?_)
              · (try dsimp only); exact KK.out _ (BV.out.grown hgrow BV.out.size (fun b hb => (OW6.out.lt b hb).1))
              clear hKx Kx
              try simp only [Act.put, List.setIfInBounds_toArray, List.set_cons_zero, List.set_cons_succ]
              replace A14 := Lib.hid (show At V4 Z14 _ from (hgrow.block Z14 A14.out.lt (fun e => by have := r6_14.out Z14 e.symm; omega)).trans A14.out)
              replace BV := Lib.hid (BV.out.grown hgrow BV.out.size (fun b hb => (OW6.out.lt b hb).1))
              obtain ⟨v10, hv10⟩ : ∃ v, v = Value.slice (some ⟨g10, 0, none⟩) (n1 + 1) cap10 := ⟨_, rfl⟩
              have HV10 := Lib.hid hv10
              rw [← hv10] at own10
              clear hv10
              have OW10 := Lib.hid own10
              clear own10 hgrow hlies hglt OW6 A9
              refine lex_step2 (i := 15) (j := 17) rfl rfl (by kernel_rfl) (by rfl) (by rfl) (fun Kx hKx => ?_) (fun Kx hKx => ?_)
              · (go_simp; go_at_call 22; refine (concat_ints V4 Z14 0 2 a2 a3 n2 c2 n3 c3 ss st A14.out.lt (A14.out.cell 0) (A14.out.cell 1) (ints_thenX HA2.out BV.out) (ints_thenX HA3.out BV.out) (by omega) (by omega) e2 e3).mono ?_; rintro e V5 ⟨v15, rfl, own15, hb15⟩; (obtain ⟨g15, cap15, rfl, hg15, hg15l⟩ := own15.form (by omega)); try go_wp2_with fail)
                refine hKx.out _ _ ?_ (fun hHeld => ?_)
                · (try dsimp only); exact KK.out _ (below_then BV.out hb15)
                clear hKx Kx
                try simp only [Act.put, List.setIfInBounds_toArray, List.set_cons_zero, List.set_cons_succ]
                have OW15 := Lib.hid (own_low own15 BV.out.size)
                replace OW10 := Lib.hid (own_thenI OW10.out hb15)
                replace BV := Lib.hid (below_then BV.out hb15)
                clear own15 hb15 hg15 hg15l A14
                refine lex_take (i := 16) (v := ?_) rfl (by kernel_rfl) (by kernel_rfl) (by kernel_rfl) (fun _ _ _ h => h) (by rfl) ?_ (by assumption) ?_
                rotate_left
                · (intro w hSw; (try dsimp only at hSw); go_simp; try with_reducible rfl)
                try simp only [Act.put, List.setIfInBounds_toArray, List.set_cons_zero, List.set_cons_succ]
                refine lex_step (i := 17) rfl (by kernel_rfl) (by rfl) (fun Kx hKx => ?_)
                go_simp
                refine hKx.out _ _ ?_ (fun hHeld => ?_)
                · (try dsimp only); exact KK.out _ (below_new BV.out _)
                clear hKx Kx
                try simp only [Act.put, List.setIfInBounds_toArray, List.set_cons_zero, List.set_cons_succ]
                have hlt17 := BV.out.size
                have p10 : ∀ g, Value.ownBlock v10 = some g → g < V5.heap.size := fun g e => (OW10.out.lt g e).2
                have p15 : ∀ g, Value.ownBlock (.slice (some ⟨g15, 0, none⟩) (n2 + n3) cap15) = some g → g < V5.heap.size := fun g e => (OW15.out.lt g e).2
                replace BV := Lib.hid (below_new BV.out (tabO ⟨#[]⟩ 0 none 0 0 none 0 0))
                replace OW10 := Lib.hid (OW10.out.alloc (tabO ⟨#[]⟩ 0 none 0 0 none 0 0))
                replace OW15 := Lib.hid (OW15.out.alloc (tabO ⟨#[]⟩ 0 none 0 0 none 0 0))
                have A17 := Lib.hid (At.new V5 (tabO ⟨#[]⟩ 0 none 0 0 none 0 0))
                obtain ⟨Z17, hZ17⟩ : ∃ Z, Z = V5.heap.size := ⟨_, rfl⟩
                rw [← hZ17] at A17 hlt17 p10 p15 ⊢
                clear hZ17
                have r10_17 := Lib.hid p10
                have r15_17 := Lib.hid p15
                clear p10 p15
                generalize World.alloc V5 _ = V6 at BV hHeld A17 OW10 OW15 ⊢
                have ne17_10 := Lib.hid (show Z17 ≠ g10 from fun e => by have := r10_17.out g10 (by rw [HV10.out]; rfl); omega)
                have ne17_15 := Lib.hid (show Z17 ≠ g15 from fun e => by have := r15_17.out g15 rfl; omega)
                have hv10 := HV10.out
                subst hv10
                exact hj Z17 g10 cap10 g15 cap15 v6 Z9 Z14 V6 ⟨A17.out, OW10.out, OW15.out, ne17_10.out, ne17_15.out, BV.out, hlt17⟩
              · go_simp
                refine hKx.out _ _ ?_ (fun hHeld => ?_)
                · (try dsimp only); exact KK.out _ (below_new BV.out _)
                clear hKx Kx
                try simp only [Act.put, List.setIfInBounds_toArray, List.set_cons_zero, List.set_cons_succ]
                have hlt17 := BV.out.size
                have p14 := A14.out.lt
                have p10 : ∀ g, Value.ownBlock v10 = some g → g < V4.heap.size := fun g e => (OW10.out.lt g e).2
                replace BV := Lib.hid (below_new BV.out (tabO ⟨#[]⟩ 0 none 0 0 none 0 0))
                replace A14 := Lib.hid (A14.out.alloc (tabO ⟨#[]⟩ 0 none 0 0 none 0 0))
                replace OW10 := Lib.hid (OW10.out.alloc (tabO ⟨#[]⟩ 0 none 0 0 none 0 0))
                have A17 := Lib.hid (At.new V4 (tabO ⟨#[]⟩ 0 none 0 0 none 0 0))
                obtain ⟨Z17, hZ17⟩ : ∃ Z, Z = V4.heap.size := ⟨_, rfl⟩
                rw [← hZ17] at A17 hlt17 p14 p10 ⊢
                clear hZ17
                have r14_17 := Lib.hid p14
                have r10_17 := Lib.hid p10
                clear p14 p10
                generalize World.alloc V4 _ = V5 at BV hHeld A17 A14 OW10 ⊢
                refine lex_step (i := 15) rfl (by kernel_rfl) (by rfl) (fun Kx hKx => ?_)
                (go_simp; go_at_call 22; refine (concat_ints V5 Z14 0 2 a2 a3 n2 c2 n3 c3 ss st A14.out.lt (A14.out.cell 0) (A14.out.cell 1) (ints_thenX HA2.out BV.out) (ints_thenX HA3.out BV.out) (by omega) (by omega) e2 e3).mono ?_; rintro e V6 ⟨v15, rfl, own15, hb15⟩; (obtain ⟨g15, cap15, rfl, hg15, hg15l⟩ := own15.form (by omega)); try go_wp2_with fail)
                refine hKx.out _ _ ?_ (fun hHeld => ?_)
                · (try dsimp only); exact KK.out _ (below_then BV.out hb15)
                clear hKx Kx
                try simp only [Act.put, List.setIfInBounds_toArray, List.set_cons_zero, List.set_cons_succ]
                have p17 := A17.out.lt
                have ne17_15 := Lib.hid (show Z17 ≠ g15 by omega)
                clear p17
                have OW15 := Lib.hid (own_low own15 BV.out.size)
                replace OW10 := Lib.hid (own_thenI OW10.out hb15)
                replace A17 := Lib.hid (A17.out.then_ hb15)
                replace BV := Lib.hid (below_then BV.out hb15)
                clear own15 hb15 hg15 hg15l A14
                refine lex_take (i := 16) (v := ?_) rfl (by kernel_rfl) (by kernel_rfl) (by kernel_rfl) (fun _ _ _ h => h) (by rfl) ?_ (by assumption) ?_
                rotate_left
                · (intro w hSw; (try dsimp only at hSw); go_simp; try with_reducible rfl)
                try simp only [Act.put, List.setIfInBounds_toArray, List.set_cons_zero, List.set_cons_succ]
                have ne17_10 := Lib.hid (show Z17 ≠ g10 from fun e => by have := r10_17.out g10 (by rw [HV10.out]; rfl); omega)
                have hv10 := HV10.out
                subst hv10
                exact hj Z17 g10 cap10 g15 cap15 v6 Z9 Z14 V6 ⟨A17.out, OW10.out, OW15.out, ne17_10.out, ne17_15.out, BV.out, hlt17⟩
            · go_simp
              refine hKx.out _ _ ?_ (fun hHeld => ?_)
              · (try dsimp only); exact KK.out _ (below_new BV.out _)
              clear hKx Kx
              try simp only [Act.put, List.setIfInBounds_toArray, List.set_cons_zero, List.set_cons_succ]
              have hlt17 := BV.out.size
              have p9 := A9.out.lt
              have p14 := A14.out.lt
              have p6 : ∀ g, Value.ownBlock v6 = some g → g < V3.heap.size := fun g e => (OW6.out.lt g e).2
              replace BV := Lib.hid (below_new BV.out (tabO ⟨#[]⟩ 0 none 0 0 none 0 0))
              replace A9 := Lib.hid (A9.out.alloc (tabO ⟨#[]⟩ 0 none 0 0 none 0 0))
              replace A14 := Lib.hid (A14.out.alloc (tabO ⟨#[]⟩ 0 none 0 0 none 0 0))
              replace OW6 := Lib.hid (OW6.out.alloc (tabO ⟨#[]⟩ 0 none 0 0 none 0 0))
              have A17 := Lib.hid (At.new V3 (tabO ⟨#[]⟩ 0 none 0 0 none 0 0))
              obtain ⟨Z17, hZ17⟩ : ∃ Z, Z = V3.heap.size := ⟨_, rfl⟩
              rw [← hZ17] at A17 hlt17 p9 p14 p6 ⊢
              clear hZ17
              have r9_17 := Lib.hid p9
              have r14_17 := Lib.hid p14
              have r6_17 := Lib.hid p6
              clear p9 p14 p6
              generalize World.alloc V3 _ = V4 at BV hHeld A17 A9 A14 OW6 ⊢
              refine lex_step (i := 10) rfl (by kernel_rfl) (by rfl) (fun Kx hKx => ?_)
              have p17b := Lib.hid A17.out.lt
              (refine wp_append_lies V4 _ _ _ (by rfl) w2.heap.size 3 i0 (.int .i64 0) 1 8 Try.underlying22 hi hz0 hz1 hz2 rfl (by decide) v6 n1 (ms.map (Value.int .i64)) (by rfl) OW6.out ⟨Z9, 0, none⟩ 1 1 [.int .i64 (n3 : Int)] (by rfl) (by rfl) (World.news_of_block (cs := #[.int .i64 (n3 : Int)]) (t := 3) (fr := (0, 0)) A9.out) (by simp [Value.oneCell']) (by decide) (by unfold maxLen; omega) (by omega) BV.out.size _ rfl ?_; intro g10 cap10 V5 own10 hgrow hlies hglt)
              refine hKx.out _ _ ?_ (fun hHeld => ?_)
              · (try dsimp only); exact KK.out _ (BV.out.grown hgrow BV.out.size (fun b hb => (OW6.out.lt b hb).1))
              clear hKx Kx
              try simp only [Act.put, List.setIfInBounds_toArray, List.set_cons_zero, List.set_cons_succ]
              replace A14 := Lib.hid (show At V5 Z14 _ from (hgrow.block Z14 A14.out.lt (fun e => by have := r6_14.out Z14 e.symm; omega)).trans A14.out)
              replace A17 := Lib.hid (show At V5 Z17 _ from (hgrow.block Z17 A17.out.lt (fun e => by have := r6_17.out Z17 e.symm; omega)).trans A17.out)
              have ne17_10 := Lib.hid (show Z17 ≠ g10 from fun e => by
                have hl := p17b.out
                rcases hlies with h | h
                · have := r6_17.out g10 h; omega
                · omega)
              replace BV := Lib.hid (BV.out.grown hgrow BV.out.size (fun b hb => (OW6.out.lt b hb).1))
              obtain ⟨v10, hv10⟩ : ∃ v, v = Value.slice (some ⟨g10, 0, none⟩) (n1 + 1) cap10 := ⟨_, rfl⟩
              have HV10 := Lib.hid hv10
              rw [← hv10] at own10
              clear hv10
              have OW10 := Lib.hid own10
              clear own10 hgrow hlies hglt OW6 A9
              refine lex_step (i := 15) rfl (by kernel_rfl) (by rfl) (fun Kx hKx => ?_)
              (go_simp; go_at_call 22; refine (concat_ints V5 Z14 0 2 a2 a3 n2 c2 n3 c3 ss st A14.out.lt (A14.out.cell 0) (A14.out.cell 1) (ints_thenX HA2.out BV.out) (ints_thenX HA3.out BV.out) (by omega) (by omega) e2 e3).mono ?_; rintro e V6 ⟨v15, rfl, own15, hb15⟩; (obtain ⟨g15, cap15, rfl, hg15, hg15l⟩ := own15.form (by omega)); try go_wp2_with fail)
              refine hKx.out _ _ ?_ (fun hHeld => ?_)
              · (try dsimp only); exact KK.out _ (below_then BV.out hb15)
              clear hKx Kx
              try simp only [Act.put, List.setIfInBounds_toArray, List.set_cons_zero, List.set_cons_succ]
              have p17 := A17.out.lt
              have ne17_15 := Lib.hid (show Z17 ≠ g15 by omega)
              clear p17
              have OW15 := Lib.hid (own_low own15 BV.out.size)
              replace OW10 := Lib.hid (own_thenI OW10.out hb15)
              replace A17 := Lib.hid (A17.out.then_ hb15)
              replace BV := Lib.hid (below_then BV.out hb15)
              clear own15 hb15 hg15 hg15l A14
              refine lex_take (i := 16) (v := ?_) rfl (by kernel_rfl) (by kernel_rfl) (by kernel_rfl) (fun _ _ _ h => h) (by rfl) ?_ (by assumption) ?_
              rotate_left
              · (intro w hSw; (try dsimp only at hSw); go_simp; try with_reducible rfl)
              try simp only [Act.put, List.setIfInBounds_toArray, List.set_cons_zero, List.set_cons_succ]
              have hv10 := HV10.out
              subst hv10
              exact hj Z17 g10 cap10 g15 cap15 v6 Z9 Z14 V6 ⟨A17.out, OW10.out, OW15.out, ne17_10.out, ne17_15.out, BV.out, hlt17⟩
          · go_simp
            refine hKx.out _ _ ?_ (fun hHeld => ?_)
            · (try dsimp only); exact KK.out _ (below_new BV.out _)
            clear hKx Kx
            try simp only [Act.put, List.setIfInBounds_toArray, List.set_cons_zero, List.set_cons_succ]
            have hlt17 := BV.out.size
            have p14 := A14.out.lt
            have p6 : ∀ g, Value.ownBlock v6 = some g → g < V2.heap.size := fun g e => (OW6.out.lt g e).2
            replace BV := Lib.hid (below_new BV.out (tabO ⟨#[]⟩ 0 none 0 0 none 0 0))
            replace A14 := Lib.hid (A14.out.alloc (tabO ⟨#[]⟩ 0 none 0 0 none 0 0))
            replace OW6 := Lib.hid (OW6.out.alloc (tabO ⟨#[]⟩ 0 none 0 0 none 0 0))
            have A17 := Lib.hid (At.new V2 (tabO ⟨#[]⟩ 0 none 0 0 none 0 0))
            obtain ⟨Z17, hZ17⟩ : ∃ Z, Z = V2.heap.size := ⟨_, rfl⟩
            rw [← hZ17] at A17 hlt17 p14 p6 ⊢
            clear hZ17
            have r14_17 := Lib.hid p14
            have r6_17 := Lib.hid p6
            clear p14 p6
            generalize World.alloc V2 _ = V3 at BV hHeld A17 A14 OW6 ⊢
            refine lex_step (i := 9) rfl (by kernel_rfl) (by rfl) (fun Kx hKx => ?_)
            go_simp
            refine hKx.out _ _ ?_ (fun hHeld => ?_)
            · (try dsimp only); exact KK.out _ (below_new BV.out _)
            clear hKx Kx
            try simp only [Act.put, List.setIfInBounds_toArray, List.set_cons_zero, List.set_cons_succ]
            have hlt9 := BV.out.size
            have p14 := A14.out.lt
            have p17 := A17.out.lt
            have p6 : ∀ g, Value.ownBlock v6 = some g → g < V3.heap.size := fun g e => (OW6.out.lt g e).2
            replace BV := Lib.hid (below_new BV.out (.cells #[.int .i64 (n3 : Int)] 3))
            replace A14 := Lib.hid (A14.out.alloc (.cells #[.int .i64 (n3 : Int)] 3))
            replace A17 := Lib.hid (A17.out.alloc (.cells #[.int .i64 (n3 : Int)] 3))
            replace OW6 := Lib.hid (OW6.out.alloc (.cells #[.int .i64 (n3 : Int)] 3))
            have A9 := Lib.hid (At.new V3 (.cells #[.int .i64 (n3 : Int)] 3))
            obtain ⟨Z9, hZ9⟩ : ∃ Z, Z = V3.heap.size := ⟨_, rfl⟩
            rw [← hZ9] at A9 hlt9 p14 p17 p6 ⊢
            clear hZ9
            have r14_9 := Lib.hid p14
            have r17_9 := Lib.hid p17
            have r6_9 := Lib.hid p6
            clear p14 p17 p6
            generalize World.alloc V3 _ = V4 at BV hHeld A9 A14 A17 OW6 ⊢
            refine lex_step (i := 10) rfl (by kernel_rfl) (by rfl) (fun Kx hKx => ?_)
            have p17b := Lib.hid A17.out.lt
            (refine wp_append_lies V4 _ _ _ (by rfl) w2.heap.size 3 i0 (.int .i64 0) 1 8 Try.underlying22 hi hz0 hz1 hz2 rfl (by decide) v6 n1 (ms.map (Value.int .i64)) (by rfl) OW6.out ⟨Z9, 0, none⟩ 1 1 [.int .i64 (n3 : Int)] (by rfl) (by rfl) (World.news_of_block (cs := #[.int .i64 (n3 : Int)]) (t := 3) (fr := (0, 0)) A9.out) (by simp [Value.oneCell']) (by decide) (by unfold maxLen; omega) (by omega) BV.out.size _ rfl ?_; intro g10 cap10 V5 own10 hgrow hlies hglt)
            refine hKx.out _ _ ?_ (fun hHeld => ?_)
            · (try dsimp only); exact KK.out _ (BV.out.grown hgrow BV.out.size (fun b hb => (OW6.out.lt b hb).1))
            clear hKx Kx
            try simp only [Act.put, List.setIfInBounds_toArray, List.set_cons_zero, List.set_cons_succ]
            replace A14 := Lib.hid (show At V5 Z14 _ from (hgrow.block Z14 A14.out.lt (fun e => by have := r6_14.out Z14 e.symm; omega)).trans A14.out)
            replace A17 := Lib.hid (show At V5 Z17 _ from (hgrow.block Z17 A17.out.lt (fun e => by have := r6_17.out Z17 e.symm; omega)).trans A17.out)
            have ne17_10 := Lib.hid (show Z17 ≠ g10 from fun e => by
              have hl := p17b.out
              rcases hlies with h | h
              · have := r6_17.out g10 h; omega
              · omega)
            replace BV := Lib.hid (BV.out.grown hgrow BV.out.size (fun b hb => (OW6.out.lt b hb).1))
            obtain ⟨v10, hv10⟩ : ∃ v, v = Value.slice (some ⟨g10, 0, none⟩) (n1 + 1) cap10 := ⟨_, rfl⟩
            have HV10 := Lib.hid hv10
            rw [← hv10] at own10
            clear hv10
            have OW10 := Lib.hid own10
            clear own10 hgrow hlies hglt OW6 A9
            refine lex_step (i := 15) rfl (by kernel_rfl) (by rfl) (fun Kx hKx => ?_)
            (go_simp; go_at_call 22; refine (concat_ints V5 Z14 0 2 a2 a3 n2 c2 n3 c3 ss st A14.out.lt (A14.out.cell 0) (A14.out.cell 1) (ints_thenX HA2.out BV.out) (ints_thenX HA3.out BV.out) (by omega) (by omega) e2 e3).mono ?_; rintro e V6 ⟨v15, rfl, own15, hb15⟩; (obtain ⟨g15, cap15, rfl, hg15, hg15l⟩ := own15.form (by omega)); try go_wp2_with fail)
            refine hKx.out _ _ ?_ (fun hHeld => ?_)
            · (try dsimp only); exact KK.out _ (below_then BV.out hb15)
            clear hKx Kx
            try simp only [Act.put, List.setIfInBounds_toArray, List.set_cons_zero, List.set_cons_succ]
            have p17 := A17.out.lt
            have ne17_15 := Lib.hid (show Z17 ≠ g15 by omega)
            clear p17
            have OW15 := Lib.hid (own_low own15 BV.out.size)
            replace OW10 := Lib.hid (own_thenI OW10.out hb15)
            replace A17 := Lib.hid (A17.out.then_ hb15)
            replace BV := Lib.hid (below_then BV.out hb15)
            clear own15 hb15 hg15 hg15l A14
            refine lex_take (i := 16) (v := ?_) rfl (by kernel_rfl) (by kernel_rfl) (by kernel_rfl) (fun _ _ _ h => h) (by rfl) ?_ (by assumption) ?_
            rotate_left
            · (intro w hSw; (try dsimp only at hSw); go_simp; try with_reducible rfl)
            try simp only [Act.put, List.setIfInBounds_toArray, List.set_cons_zero, List.set_cons_succ]
            have hv10 := HV10.out
            subst hv10
            exact hj Z17 g10 cap10 g15 cap15 v6 Z9 Z14 V6 ⟨A17.out, OW10.out, OW15.out, ne17_10.out, ne17_15.out, BV.out, hlt17⟩
        · as_aux_lemma =>
          go_simp
          refine hKx.out _ _ ?_ (fun hHeld => ?_)
          · (try dsimp only); exact KK.out _ (below_new BV.out _)
          clear hKx Kx
          try simp only [Act.put, List.setIfInBounds_toArray, List.set_cons_zero, List.set_cons_succ]
          have hlt17 := BV.out.size
          have p6 : ∀ g, Value.ownBlock v6 = some g → g < V1.heap.size := fun g e => (OW6.out.lt g e).2
          replace BV := Lib.hid (below_new BV.out (tabO ⟨#[]⟩ 0 none 0 0 none 0 0))
          replace OW6 := Lib.hid (OW6.out.alloc (tabO ⟨#[]⟩ 0 none 0 0 none 0 0))
          have A17 := Lib.hid (At.new V1 (tabO ⟨#[]⟩ 0 none 0 0 none 0 0))
          obtain ⟨Z17, hZ17⟩ : ∃ Z, Z = V1.heap.size := ⟨_, rfl⟩
          rw [← hZ17] at A17 hlt17 p6 ⊢
          clear hZ17
          have r6_17 := Lib.hid p6
          clear p6
          generalize World.alloc V1 _ = V2 at BV hHeld A17 OW6 ⊢
          refine lex_step2 (i := 9) (j := 14) rfl rfl (by kernel_rfl) (by rfl) (by rfl) (fun Kx hKx => ?_) (fun Kx hKx => ?_)
          · go_simp
            refine hKx.out _ _ ?_ (fun hHeld => ?_)
            · (try dsimp only); exact KK.out _ (below_new BV.out _)
            clear hKx Kx
            try simp only [Act.put, List.setIfInBounds_toArray, List.set_cons_zero, List.set_cons_succ]
            have hlt9 := BV.out.size
            have p17 := A17.out.lt
            have p6 : ∀ g, Value.ownBlock v6 = some g → g < V2.heap.size := fun g e => (OW6.out.lt g e).2
            replace BV := Lib.hid (below_new BV.out (.cells #[.int .i64 (n3 : Int)] 3))
            replace A17 := Lib.hid (A17.out.alloc (.cells #[.int .i64 (n3 : Int)] 3))
            replace OW6 := Lib.hid (OW6.out.alloc (.cells #[.int .i64 (n3 : Int)] 3))
            have A9 := Lib.hid (At.new V2 (.cells #[.int .i64 (n3 : Int)] 3))
            obtain ⟨Z9, hZ9⟩ : ∃ Z, Z = V2.heap.size := ⟨_, rfl⟩
            rw [← hZ9] at A9 hlt9 p17 p6 ⊢
            clear hZ9
            have r17_9 := Lib.hid p17
            have r6_9 := Lib.hid p6
            clear p17 p6
            generalize World.alloc V2 _ = V3 at BV hHeld A9 A17 OW6 ⊢
            refine lex_step2 (i := 10) (j := 14) rfl rfl (by kernel_rfl) (by rfl) (by rfl) (fun Kx hKx => ?_) (fun Kx hKx => ?_)
            · have p17b := Lib.hid A17.out.lt
              (refine wp_append_lies V3 _ _ _ (by rfl) w2.heap.size 3 i0 (.int .i64 0) 1 8 Try.underlying22 hi hz0 hz1 hz2 rfl (by decide) v6 n1 (ms.map (Value.int .i64)) (by rfl) OW6.out ⟨Z9, 0, none⟩ 1 1 [.int .i64 (n3 : Int)] (by rfl) (by rfl) (World.news_of_block (cs := #[.int .i64 (n3 : Int)]) (t := 3) (fr := (0, 0)) A9.out) (by simp [Value.oneCell']) (by decide) (by unfold maxLen; omega) (by omega) BV.out.size _ rfl ?_; intro g10 cap10 V4 own10 hgrow hlies hglt)
              refine hKx.out _ _ ?_ (fun hHeld => ?_)
              · (try dsimp only); exact KK.out _ (BV.out.grown hgrow BV.out.size (fun b hb => (OW6.out.lt b hb).1))
              clear hKx Kx
              try simp only [Act.put, List.setIfInBounds_toArray, List.set_cons_zero, List.set_cons_succ]
              replace A17 := Lib.hid (show At V4 Z17 _ from (hgrow.block Z17 A17.out.lt (fun e => by have := r6_17.out Z17 e.symm; omega)).trans A17.out)
              have ne17_10 := Lib.hid (show Z17 ≠ g10 from fun e => by
                have hl := p17b.out
                rcases hlies with h | h
                · have := r6_17.out g10 h; omega
                · omega)
              replace BV := Lib.hid (BV.out.grown hgrow BV.out.size (fun b hb => (OW6.out.lt b hb).1))
              obtain ⟨v10, hv10⟩ : ∃ v, v = Value.slice (some ⟨g10, 0, none⟩) (n1 + 1) cap10 := ⟨_, rfl⟩
              have HV10 := Lib.hid hv10
              rw [← hv10] at own10
              clear hv10
              have OW10 := Lib.hid own10
              clear own10 hgrow hlies hglt OW6 A9
              refine lex_step (i := 14) rfl (by kernel_rfl) (by rfl) (fun Kx hKx => ?_)
              go_simp
              refine hKx.out _ _ ?_ (fun hHeld => ?_)
              · (try dsimp only); exact KK.out _ (below_new BV.out _)
              clear hKx Kx
              try simp only [Act.put, List.setIfInBounds_toArray, List.set_cons_zero, List.set_cons_succ]
              have hlt14 := BV.out.size
              have p17 := A17.out.lt
              have p10 : ∀ g, Value.ownBlock v10 = some g → g < V4.heap.size := fun g e => (OW10.out.lt g e).2
              replace BV := Lib.hid (below_new BV.out (.cells #[.slice a2 n2 c2, .slice a3 n3 c3] 22))
              replace A17 := Lib.hid (A17.out.alloc (.cells #[.slice a2 n2 c2, .slice a3 n3 c3] 22))
              replace OW10 := Lib.hid (OW10.out.alloc (.cells #[.slice a2 n2 c2, .slice a3 n3 c3] 22))
              have A14 := Lib.hid (At.new V4 (.cells #[.slice a2 n2 c2, .slice a3 n3 c3] 22))
              obtain ⟨Z14, hZ14⟩ : ∃ Z, Z = V4.heap.size := ⟨_, rfl⟩
              rw [← hZ14] at A14 hlt14 p17 p10 ⊢
              clear hZ14
              have r17_14 := Lib.hid p17
              have r10_14 := Lib.hid p10
              clear p17 p10
              generalize World.alloc V4 _ = V5 at BV hHeld A14 A17 OW10 ⊢
              refine lex_step (i := 15) rfl (by kernel_rfl) (by rfl) (fun Kx hKx => ?_)
              (go_simp; go_at_call 22; refine (concat_ints V5 Z14 0 2 a2 a3 n2 c2 n3 c3 ss st A14.out.lt (A14.out.cell 0) (A14.out.cell 1) (ints_thenX HA2.out BV.out) (ints_thenX HA3.out BV.out) (by omega) (by omega) e2 e3).mono ?_; rintro e V6 ⟨v15, rfl, own15, hb15⟩; (obtain ⟨g15, cap15, rfl, hg15, hg15l⟩ := own15.form (by omega)); try go_wp2_with fail)
              refine hKx.out _ _ ?_ (fun hHeld => ?_)
              · (try dsimp only); exact KK.out _ (below_then BV.out hb15)
              clear hKx Kx
              try simp only [Act.put, List.setIfInBounds_toArray, List.set_cons_zero, List.set_cons_succ]
              have p17 := A17.out.lt
              have ne17_15 := Lib.hid (show Z17 ≠ g15 by omega)
              clear p17
              have OW15 := Lib.hid (own_low own15 BV.out.size)
              replace OW10 := Lib.hid (own_thenI OW10.out hb15)
              replace A17 := Lib.hid (A17.out.then_ hb15)
              replace BV := Lib.hid (below_then BV.out hb15)
              clear own15 hb15 hg15 hg15l A14
              refine lex_take (i := 16) (v := ?_) rfl (by kernel_rfl) (by kernel_rfl) (by kernel_rfl) (fun _ _ _ h => h) (by rfl) ?_ (by assumption) ?_
              rotate_left
              · (intro w hSw; (try dsimp only at hSw); go_simp; try with_reducible rfl)
              try simp only [Act.put, List.setIfInBounds_toArray, List.set_cons_zero, List.set_cons_succ]
              have hv10 := HV10.out
              subst hv10
              exact hj Z17 g10 cap10 g15 cap15 v6 Z9 Z14 V6 ⟨A17.out, OW10.out, OW15.out, ne17_10.out, ne17_15.out, BV.out, hlt17⟩
            · go_simp
              refine hKx.out _ _ ?_ (fun hHeld => ?_)
              · (try dsimp only); exact KK.out _ (below_new BV.out _)
              clear hKx Kx
              try simp only [Act.put, List.setIfInBounds_toArray, List.set_cons_zero, List.set_cons_succ]
              have hlt14 := BV.out.size
              have p9 := A9.out.lt
              have p17 := A17.out.lt
              have p6 : ∀ g, Value.ownBlock v6 = some g → g < V3.heap.size := fun g e => (OW6.out.lt g e).2
              replace BV := Lib.hid (below_new BV.out (.cells #[.slice a2 n2 c2, .slice a3 n3 c3] 22))
              replace A9 := Lib.hid (A9.out.alloc (.cells #[.slice a2 n2 c2, .slice a3 n3 c3] 22))
              replace A17 := Lib.hid (A17.out.alloc (.cells #[.slice a2 n2 c2, .slice a3 n3 c3] 22))
              replace OW6 := Lib.hid (OW6.out.alloc (.cells #[.slice a2 n2 c2, .slice a3 n3 c3] 22))
              have A14 := Lib.hid (At.new V3 (.cells #[.slice a2 n2 c2, .slice a3 n3 c3] 22))
              obtain ⟨Z14, hZ14⟩ : ∃ Z, Z = V3.heap.size := ⟨_, rfl⟩
              rw [← hZ14] at A14 hlt14 p9 p17 p6 ⊢
              clear hZ14
              have r9_14 := Lib.hid p9
              have r17_14 := Lib.hid p17
              have r6_14 := Lib.hid p6
              clear p9 p17 p6
              generalize World.alloc V3 _ = V4 at BV hHeld A14 A9 A17 OW6 ⊢
              refine lex_step (i := 10) rfl (by kernel_rfl) (by rfl) (fun Kx hKx => ?_)
              have p17b := Lib.hid A17.out.lt
              (refine wp_append_lies V4 _ _ _ (by rfl) w2.heap.size 3 i0 (.int .i64 0) 1 8 Try.underlying22 hi hz0 hz1 hz2 rfl (by decide) v6 n1 (ms.map (Value.int .i64)) (by rfl) OW6.out ⟨Z9, 0, none⟩ 1 1 [.int .i64 (n3 : Int)] (by rfl) (by rfl) (World.news_of_block (cs := #[.int .i64 (n3 : Int)]) (t := 3) (fr := (0, 0)) A9.out) (by simp [Value.oneCell']) (by decide) (by unfold maxLen; omega) (by omega) BV.out.size _ rfl ?_; intro g10 cap10 V5 own10 hgrow hlies hglt)
              refine hKx.out _ _ ?_ (fun hHeld => ?_)
              · (try dsimp only); exact KK.out _ (BV.out.grown hgrow BV.out.size (fun b hb => (OW6.out.lt b hb).1))
              clear hKx Kx
              try simp only [Act.put, List.setIfInBounds_toArray, List.set_cons_zero, List.set_cons_succ]
              replace A14 := Lib.hid (show At V5 Z14 _ from (hgrow.block Z14 A14.out.lt (fun e => by have := r6_14.out Z14 e.symm; omega)).trans A14.out)
              replace A17 := Lib.hid (show At V5 Z17 _ from (hgrow.block Z17 A17.out.lt (fun e => by have := r6_17.out Z17 e.symm; omega)).trans A17.out)
              have ne17_10 := Lib.hid (show Z17 ≠ g10 from fun e => by
                have hl := p17b.out
                rcases hlies with h | h
                · have := r6_17.out g10 h; omega
                · omega)
              replace BV := Lib.hid (BV.out.grown hgrow BV.out.size (fun b hb => (OW6.out.lt b hb).1))
              obtain ⟨v10, hv10⟩ : ∃ v, v = Value.slice (some ⟨g10, 0, none⟩) (n1 + 1) cap10 := ⟨_, rfl⟩
              have HV10 := Lib.hid hv10
              rw [← hv10] at own10
              clear hv10
              have OW10 := Lib.hid own10
              clear own10 hgrow hlies hglt OW6 A9
              refine lex_step (i := 15) rfl (by kernel_rfl) (by rfl) (fun Kx hKx => ?_)
              (go_simp; go_at_call 22; refine (concat_ints V5 Z14 0 2 a2 a3 n2 c2 n3 c3 ss st A14.out.lt (A14.out.cell 0) (A14.out.cell 1) (ints_thenX HA2.out BV.out) (ints_thenX HA3.out BV.out) (by omega) (by omega) e2 e3).mono ?_; rintro e V6 ⟨v15, rfl, own15, hb15⟩; (obtain ⟨g15, cap15, rfl, hg15, hg15l⟩ := own15.form (by omega)); try go_wp2_with fail)
              refine hKx.out _ _ ?_ (fun hHeld => ?_)
              · (try dsimp only); exact KK.out _ (below_then BV.out hb15)
              clear hKx Kx
              try simp only [Act.put, List.setIfInBounds_toArray, List.set_cons_zero, List.set_cons_succ]
              have p17 := A17.out.lt
              have ne17_15 := Lib.hid (show Z17 ≠ g15 by omega)
              clear p17
              have OW15 := Lib.hid (own_low own15 BV.out.size)
              replace OW10 := Lib.hid (own_thenI OW10.out hb15)
              replace A17 := Lib.hid (A17.out.then_ hb15)
              replace BV := Lib.hid (below_then BV.out hb15)
              clear own15 hb15 hg15 hg15l A14
              refine lex_take (i := 16) (v := ?_) rfl (by kernel_rfl) (by kernel_rfl) (by kernel_rfl) (fun _ _ _ h => h) (by rfl) ?_ (by assumption) ?_
              rotate_left
              · (intro w hSw; (try dsimp only at hSw); go_simp; try with_reducible rfl)
              try simp only [Act.put, List.setIfInBounds_toArray, List.set_cons_zero, List.set_cons_succ]
              have hv10 := HV10.out
              subst hv10
              exact hj Z17 g10 cap10 g15 cap15 v6 Z9 Z14 V6 ⟨A17.out, OW10.out, OW15.out, ne17_10.out, ne17_15.out, BV.out, hlt17⟩
          · go_simp
            refine hKx.out _ _ ?_ (fun hHeld => ?_)
            · (try dsimp only); exact KK.out _ (below_new BV.out _)
            clear hKx Kx
            try simp only [Act.put, List.setIfInBounds_toArray, List.set_cons_zero, List.set_cons_succ]
            have hlt14 := BV.out.size
            have p17 := A17.out.lt
            have p6 : ∀ g, Value.ownBlock v6 = some g → g < V2.heap.size := fun g e => (OW6.out.lt g e).2
            replace BV := Lib.hid (below_new BV.out (.cells #[.slice a2 n2 c2, .slice a3 n3 c3] 22))
            replace A17 := Lib.hid (A17.out.alloc (.cells #[.slice a2 n2 c2, .slice a3 n3 c3] 22))
            replace OW6 := Lib.hid (OW6.out.alloc (.cells #[.slice a2 n2 c2, .slice a3 n3 c3] 22))
            have A14 := Lib.hid (At.new V2 (.cells #[.slice a2 n2 c2, .slice a3 n3 c3] 22))
            obtain ⟨Z14, hZ14⟩ : ∃ Z, Z = V2.heap.size := ⟨_, rfl⟩
            rw [← hZ14] at A14 hlt14 p17 p6 ⊢
            clear hZ14
            have r17_14 := Lib.hid p17
            have r6_14 := Lib.hid p6
            clear p17 p6
            generalize World.alloc V2 _ = V3 at BV hHeld A14 A17 OW6 ⊢
            refine lex_step (i := 9) rfl (by kernel_rfl) (by rfl) (fun Kx hKx => ?_)
            go_simp
            refine hKx.out _ _ ?_ (fun hHeld => ?_)
            · (try dsimp only); exact KK.out _ (below_new BV.out _)
            clear hKx Kx
            try simp only [Act.put, List.setIfInBounds_toArray, List.set_cons_zero, List.set_cons_succ]
            have hlt9 := BV.out.size
            have p14 := A14.out.lt
            have p17 := A17.out.lt
            have p6 : ∀ g, Value.ownBlock v6 = some g → g < V3.heap.size := fun g e => (OW6.out.lt g e).2
            replace BV := Lib.hid (below_new BV.out (.cells #[.int .i64 (n3 : Int)] 3))
            replace A14 := Lib.hid (A14.out.alloc (.cells #[.int .i64 (n3 : Int)] 3))
            replace A17 := Lib.hid (A17.out.alloc (.cells #[.int .i64 (n3 : Int)] 3))
            replace OW6 := Lib.hid (OW6.out.alloc (.cells #[.int .i64 (n3 : Int)] 3))
            have A9 := Lib.hid (At.new V3 (.cells #[.int .i64 (n3 : Int)] 3))
            obtain ⟨Z9, hZ9⟩ : ∃ Z, Z = V3.heap.size := ⟨_, rfl⟩
            rw [← hZ9] at A9 hlt9 p14 p17 p6 ⊢
            clear hZ9
            have r14_9 := Lib.hid p14
            have r17_9 := Lib.hid p17
            have r6_9 := Lib.hid p6
            clear p14 p17 p6
            generalize World.alloc V3 _ = V4 at BV hHeld A9 A14 A17 OW6 ⊢
            refine lex_step (i := 10) rfl (by kernel_rfl) (by rfl) (fun Kx hKx => ?_)
            have p17b := Lib.hid A17.out.lt
            (refine wp_append_lies V4 _ _ _ (by rfl) w2.heap.size 3 i0 (.int .i64 0) 1 8 Try.underlying22 hi hz0 hz1 hz2 rfl (by decide) v6 n1 (ms.map (Value.int .i64)) (by rfl) OW6.out ⟨Z9, 0, none⟩ 1 1 [.int .i64 (n3 : Int)] (by rfl) (by rfl) (World.news_of_block (cs := #[.int .i64 (n3 : Int)]) (t := 3) (fr := (0, 0)) A9.out) (by simp [Value.oneCell']) (by decide) (by unfold maxLen; omega) (by omega) BV.out.size _ rfl ?_; intro g10 cap10 V5 own10 hgrow hlies hglt)
            refine hKx.out _ _ ?_ (fun hHeld => ?_)
            · (try dsimp only); exact KK.out _ (BV.out.grown hgrow BV.out.size (fun b hb => (OW6.out.lt b hb).1))
            clear hKx Kx
            try simp only [Act.put, List.setIfInBounds_toArray, List.set_cons_zero, List.set_cons_succ]
            replace A14 := Lib.hid (show At V5 Z14 _ from (hgrow.block Z14 A14.out.lt (fun e => by have := r6_14.out Z14 e.symm; omega)).trans A14.out)
            replace A17 := Lib.hid (show At V5 Z17 _ from (hgrow.block Z17 A17.out.lt (fun e => by have := r6_17.out Z17 e.symm; omega)).trans A17.out)
            have ne17_10 := Lib.hid (show Z17 ≠ g10 from fun e => by
              have hl := p17b.out
              rcases hlies with h | h
              · have := r6_17.out g10 h; omega
              · omega)
            replace BV := Lib.hid (BV.out.grown hgrow BV.out.size (fun b hb => (OW6.out.lt b hb).1))
            obtain ⟨v10, hv10⟩ : ∃ v, v = Value.slice (some ⟨g10, 0, none⟩) (n1 + 1) cap10 := ⟨_, rfl⟩
            have HV10 := Lib.hid hv10
            rw [← hv10] at own10
            clear hv10
            have OW10 := Lib.hid own10
            clear own10 hgrow hlies hglt OW6 A9
            refine lex_step (i := 15) rfl (by kernel_rfl) (by rfl) (fun Kx hKx => ?_)
            (go_simp; go_at_call 22; refine (concat_ints V5 Z14 0 2 a2 a3 n2 c2 n3 c3 ss st A14.out.lt (A14.out.cell 0) (A14.out.cell 1) (ints_thenX HA2.out BV.out) (ints_thenX HA3.out BV.out) (by omega) (by omega) e2 e3).mono ?_; rintro e V6 ⟨v15, rfl, own15, hb15⟩; (obtain ⟨g15, cap15, rfl, hg15, hg15l⟩ := own15.form (by omega)); try go_wp2_with fail)
            refine hKx.out _ _ ?_ (fun hHeld => ?_)
            · (try dsimp only); exact KK.out _ (below_then BV.out hb15)
            clear hKx Kx
            try simp only [Act.put, List.setIfInBounds_toArray, List.set_cons_zero, List.set_cons_succ]
            have p17 := A17.out.lt
            have ne17_15 := Lib.hid (show Z17 ≠ g15 by omega)
            clear p17
            have OW15 := Lib.hid (own_low own15 BV.out.size)
            replace OW10 := Lib.hid (own_thenI OW10.out hb15)
            replace A17 := Lib.hid (A17.out.then_ hb15)
            replace BV := Lib.hid (below_then BV.out hb15)
            clear own15 hb15 hg15 hg15l A14
            refine lex_take (i := 16) (v := ?_) rfl (by kernel_rfl) (by kernel_rfl) (by kernel_rfl) (fun _ _ _ h => h) (by rfl) ?_ (by assumption) ?_
            rotate_left
            · (intro w hSw; (try dsimp only at hSw); go_simp; try with_reducible rfl)
            try simp only [Act.put, List.setIfInBounds_toArray, List.set_cons_zero, List.set_cons_succ]
            have hv10 := HV10.out
            subst hv10
            exact hj Z17 g10 cap10 g15 cap15 v6 Z9 Z14 V6 ⟨A17.out, OW10.out, OW15.out, ne17_10.out, ne17_15.out, BV.out, hlt17⟩
      · as_aux_lemma =>
        go_simp
        refine hKx.out _ _ ?_ (fun hHeld => ?_)
        · (try dsimp only); exact KK.out _ (below_new BV.out _)
        clear hKx Kx
        try simp only [Act.put, List.setIfInBounds_toArray, List.set_cons_zero, List.set_cons_succ]
        have hlt9 := BV.out.size
        replace BV := Lib.hid (below_new BV.out (.cells #[.int .i64 (n3 : Int)] 3))
        have A9 := Lib.hid (At.new V0 (.cells #[.int .i64 (n3 : Int)] 3))
        obtain ⟨Z9, hZ9⟩ : ∃ Z, Z = V0.heap.size := ⟨_, rfl⟩
        rw [← hZ9] at A9 hlt9 ⊢
        clear hZ9
        generalize World.alloc V0 _ = V1 at BV hHeld A9 ⊢
        refine lex_step3 (i := 6) (j := 14) (k := 17) rfl rfl rfl (by kernel_rfl) (by rfl) (by rfl) (by rfl) (fun Kx hKx => ?_) (fun Kx hKx => ?_) (fun Kx hKx => ?_)
        · as_aux_lemma =>
          (go_simp; go_at_call 21; refine (clone_ints V1 a1 n1 c1 ms (ints_thenX HA1.out BV.out) (by omega)).mono ?_; rintro e V2 ⟨v6, rfl, own6, hb6⟩; try go_wp2_with fail)
          refine hKx.out _ _ ?_ (fun hHeld => ?_)
          · (try dsimp only); exact KK.out _ (below_then BV.out hb6)
          clear hKx Kx
          try simp only [Act.put, List.setIfInBounds_toArray, List.set_cons_zero, List.set_cons_succ]
          have p9 := A9.out.lt
          have r9_6 := Lib.hid (show ∀ g, Value.ownBlock v6 = some g → Z9 < g from fun g e => by have := (own6.lt g e).1; omega)
          clear p9
          have OW6 := Lib.hid (own_low own6 BV.out.size)
          replace A9 := Lib.hid (A9.out.then_ hb6)
          replace BV := Lib.hid (below_then BV.out hb6)
          clear own6 hb6
          refine lex_step3 (i := 10) (j := 14) (k := 17) rfl rfl rfl (by kernel_rfl) (by rfl) (by rfl) (by rfl) (fun Kx hKx => ?_) (fun Kx hKx => ?_) (fun Kx hKx => ?_)
          · (refine wp_append_lies V2 _ _ _ (by rfl) w2.heap.size 3 i0 (.int .i64 0) 1 8 Try.underlying22 hi hz0 hz1 hz2 rfl (by decide) v6 n1 (ms.map (Value.int .i64)) (by rfl) OW6.out ⟨Z9, 0, none⟩ 1 1 [.int .i64 (n3 : Int)] (by rfl) (by rfl) (World.news_of_block (cs := #[.int .i64 (n3 : Int)]) (t := 3) (fr := (0, 0)) A9.out) (by simp [Value.oneCell']) (by decide) (by unfold maxLen; omega) (by omega) BV.out.size _ rfl ?_; intro g10 cap10 V3 own10 hgrow hlies hglt)
            refine hKx.out _ _ ?_ (fun hHeld => ?_)
            · (try dsimp only); exact KK.out _ (BV.out.grown hgrow BV.out.size (fun b hb => (OW6.out.lt b hb).1))
            clear hKx Kx
            try simp only [Act.put, List.setIfInBounds_toArray, List.set_cons_zero, List.set_cons_succ]
            replace BV := Lib.hid (BV.out.grown hgrow BV.out.size (fun b hb => (OW6.out.lt b hb).1))
            obtain ⟨v10, hv10⟩ : ∃ v, v = Value.slice (some ⟨g10, 0, none⟩) (n1 + 1) cap10 := ⟨_, rfl⟩
            have HV10 := Lib.hid hv10
            rw [← hv10] at own10
            clear hv10
            have OW10 := Lib.hid own10
            clear own10 hgrow hlies hglt OW6 A9
            refine lex_step2 (i := 14) (j := 17) rfl rfl (by kernel_rfl) (by rfl) (by rfl) (fun Kx hKx => ?_) (fun Kx hKx => ?_)
            · go_simp
              refine hKx.out _ _ ?_ (fun hHeld => ?_)
              · (try dsimp only); exact KK.out _ (below_new BV.out _)
              clear hKx Kx
              try simp only [Act.put, List.setIfInBounds_toArray, List.set_cons_zero, List.set_cons_succ]
              have hlt14 := BV.out.size
              have p10 : ∀ g, Value.ownBlock v10 = some g → g < V3.heap.size := fun g e => (OW10.out.lt g e).2
              replace BV := Lib.hid (below_new BV.out (.cells #[.slice a2 n2 c2, .slice a3 n3 c3] 22))
              replace OW10 := Lib.hid (OW10.out.alloc (.cells #[.slice a2 n2 c2, .slice a3 n3 c3] 22))
              have A14 := Lib.hid (At.new V3 (.cells #[.slice a2 n2 c2, .slice a3 n3 c3] 22))
              obtain ⟨Z14, hZ14⟩ : ∃ Z, Z = V3.heap.size := ⟨_, rfl⟩
              rw [← hZ14] at A14 hlt14 p10 ⊢
              clear hZ14
              have r10_14 := Lib.hid p10
              clear p10
              generalize World.alloc V3 _ = V4 at BV hHeld A14 OW10 ⊢
              refine lex_step2 (i := 15) (j := 17) rfl rfl (by kernel_rfl) (by rfl) (by rfl) (fun Kx hKx => ?_) (fun Kx hKx => ?_)
              · (go_simp; go_at_call 22; refine (concat_ints V4 Z14 0 2 a2 a3 n2 c2 n3 c3 ss st A14.out.lt (A14.out.cell 0) (A14.out.cell 1) (ints_thenX HA2.out BV.out) (ints_thenX HA3.out BV.out) (by omega) (by omega) e2 e3).mono ?_; rintro e V5 ⟨v15, rfl, own15, hb15⟩; (obtain ⟨g15, cap15, rfl, hg15, hg15l⟩ := own15.form (by omega)); try go_wp2_with fail)
                refine hKx.out _ _ ?_ (fun hHeld => ?_)
                · (try dsimp only); exact KK.out _ (below_then BV.out hb15)
                clear hKx Kx
                try simp only [Act.put, List.setIfInBounds_toArray, List.set_cons_zero, List.set_cons_succ]
                have OW15 := Lib.hid (own_low own15 BV.out.size)
                replace OW10 := Lib.hid (own_thenI OW10.out hb15)
                replace BV := Lib.hid (below_then BV.out hb15)
                clear own15 hb15 hg15 hg15l A14
                refine lex_take (i := 16) (v := ?_) rfl (by kernel_rfl) (by kernel_rfl) (by kernel_rfl) (fun _ _ _ h => h) (by rfl) ?_ (by assumption) ?_
                rotate_left
                · (intro w hSw; (try dsimp only at hSw); go_simp; try with_reducible rfl)
                try simp only [Act.put, List.setIfInBounds_toArray, List.set_cons_zero, List.set_cons_succ]
                refine lex_step (i := 17) rfl (by kernel_rfl) (by rfl) (fun Kx hKx => ?_)
                go_simp
                refine hKx.out _ _ ?_ (fun hHeld => ?_)
                · (try dsimp only); exact KK.out _ (below_new BV.out _)
                clear hKx Kx
                try simp only [Act.put, List.setIfInBounds_toArray, List.set_cons_zero, List.set_cons_succ]
                have hlt17 := BV.out.size
                have p10 : ∀ g, Value.ownBlock v10 = some g → g < V5.heap.size := fun g e => (OW10.out.lt g e).2
                have p15 : ∀ g, Value.ownBlock (.slice (some ⟨g15, 0, none⟩) (n2 + n3) cap15) = some g → g < V5.heap.size := fun g e => (OW15.out.lt g e).2
                replace BV := Lib.hid (below_new BV.out (tabO ⟨#[]⟩ 0 none 0 0 none 0 0))
                replace OW10 := Lib.hid (OW10.out.alloc (tabO ⟨#[]⟩ 0 none 0 0 none 0 0))
                replace OW15 := Lib.hid (OW15.out.alloc (tabO ⟨#[]⟩ 0 none 0 0 none 0 0))
                have A17 := Lib.hid (At.new V5 (tabO ⟨#[]⟩ 0 none 0 0 none 0 0))
                obtain ⟨Z17, hZ17⟩ : ∃ Z, Z = V5.heap.size := ⟨_, rfl⟩
                rw [← hZ17] at A17 hlt17 p10 p15 ⊢
                clear hZ17
                have r10_17 := Lib.hid p10
                have r15_17 := Lib.hid p15
                clear p10 p15
                generalize World.alloc V5 _ = V6 at BV hHeld A17 OW10 OW15 ⊢
                have ne17_10 := Lib.hid (show Z17 ≠ g10 from fun e => by have := r10_17.out g10 (by rw [HV10.out]; rfl); omega)
                have ne17_15 := Lib.hid (show Z17 ≠ g15 from fun e => by have := r15_17.out g15 rfl; omega)
                have hv10 := HV10.out
                subst hv10
                exact hj Z17 g10 cap10 g15 cap15 v6 Z9 Z14 V6 ⟨A17.out, OW10.out, OW15.out, ne17_10.out, ne17_15.out, BV.out, hlt17⟩
              · go_simp
                refine hKx.out _ _ ?_ (fun hHeld => ?_)
                · (try dsimp only); exact KK.out _ (below_new BV.out _)
                clear hKx Kx
                try simp only [Act.put, List.setIfInBounds_toArray, List.set_cons_zero, List.set_cons_succ]
                have hlt17 := BV.out.size
                have p14 := A14.out.lt
                have p10 : ∀ g, Value.ownBlock v10 = some g → g < V4.heap.size := fun g e => (OW10.out.lt g e).2
                replace BV := Lib.hid (below_new BV.out (tabO ⟨#[]⟩ 0 none 0 0 none 0 0))
                replace A14 := Lib.hid (A14.out.alloc (tabO ⟨#[]⟩ 0 none 0 0 none 0 0))
                replace OW10 := Lib.hid (OW10.out.alloc (tabO ⟨#[]⟩ 0 none 0 0 none 0 0))
                have A17 := Lib.hid (At.new V4 (tabO ⟨#[]⟩ 0 none 0 0 none 0 0))
                obtain ⟨Z17, hZ17⟩ : ∃ Z, Z = V4.heap.size := ⟨_, rfl⟩
                rw [← hZ17] at A17 hlt17 p14 p10 ⊢
                clear hZ17
                have r14_17 := Lib.hid p14
                have r10_17 := Lib.hid p10
                clear p14 p10
                generalize World.alloc V4 _ = V5 at BV hHeld A17 A14 OW10 ⊢
                refine lex_step (i := 15) rfl (by kernel_rfl) (by rfl) (fun Kx hKx => ?_)
                (go_simp; go_at_call 22; refine (concat_ints V5 Z14 0 2 a2 a3 n2 c2 n3 c3 ss st A14.out.lt (A14.out.cell 0) (A14.out.cell 1) (ints_thenX HA2.out BV.out) (ints_thenX HA3.out BV.out) (by omega) (by omega) e2 e3).mono ?_; rintro e V6 ⟨v15, rfl, own15, hb15⟩; (obtain ⟨g15, cap15, rfl, hg15, hg15l⟩ := own15.form (by omega)); try go_wp2_with fail)
                refine hKx.out _ _ ?_ (fun hHeld => ?_)
                · (try dsimp only); exact KK.out _ (below_then BV.out hb15)
                clear hKx Kx
                try simp only [Act.put, List.setIfInBounds_toArray, List.set_cons_zero, List.set_cons_succ]
                have p17 := A17.out.lt
                have ne17_15 := Lib.hid (show Z17 ≠ g15 by omega)
                clear p17
                have OW15 := Lib.hid (own_low own15 BV.out.size)
                replace OW10 := Lib.hid (own_thenI OW10.out hb15)
                replace A17 := Lib.hid (A17.out.then_ hb15)
                replace BV := Lib.hid (below_then BV.out hb15)
                clear own15 hb15 hg15 hg15l A14
                refine lex_take (i := 16) (v := ?_) rfl (by kernel_rfl) (by kernel_rfl) (by kernel_rfl) (fun _ _ _ h => h) (by rfl) ?_ (by assumption) ?_
                rotate_left
                · (intro w hSw; (try dsimp only at hSw); go_simp; try with_reducible rfl)
                try simp only [Act.put, List.setIfInBounds_toArray, List.set_cons_zero, List.set_cons_succ]
                have ne17_10 := Lib.hid (show Z17 ≠ g10 from fun e => by have := r10_17.out g10 (by rw [HV10.out]; rfl); omega)
                have hv10 := HV10.out
                subst hv10
                exact hj Z17 g10 cap10 g15 cap15 v6 Z9 Z14 V6 ⟨A17.out, OW10.out, OW15.out, ne17_10.out, ne17_15.out, BV.out, hlt17⟩
            · go_simp
              refine hKx.out _ _ ?_ (fun hHeld => ?_)
              · (try dsimp only); exact KK.out _ (below_new BV.out _)
              clear hKx Kx
              try simp only [Act.put, List.setIfInBounds_toArray, List.set_cons_zero, List.set_cons_succ]
              have hlt17 := BV.out.size
              have p10 : ∀ g, Value.ownBlock v10 = some g → g < V3.heap.size := fun g e => (OW10.out.lt g e).2
              replace BV := Lib.hid (below_new BV.out (tabO ⟨#[]⟩ 0 none 0 0 none 0 0))
              replace OW10 := Lib.hid (OW10.out.alloc (tabO ⟨#[]⟩ 0 none 0 0 none 0 0))
              have A17 := Lib.hid (At.new V3 (tabO ⟨#[]⟩ 0 none 0 0 none 0 0))
              obtain ⟨Z17, hZ17⟩ : ∃ Z, Z = V3.heap.size := ⟨_, rfl⟩
              rw [← hZ17] at A17 hlt17 p10 ⊢
              clear hZ17
              have r10_17 := Lib.hid p10
              clear p10
              generalize World.alloc V3 _ = V4 at BV hHeld A17 OW10 ⊢
              refine lex_step (i := 14) rfl (by kernel_rfl) (by rfl) (fun Kx hKx => ?_)
              go_simp
              refine hKx.out _ _ ?_ (fun hHeld => ?_)
              · (try dsimp only); exact KK.out _ (below_new BV.out _)
              clear hKx Kx
              try simp only [Act.put, List.setIfInBounds_toArray, List.set_cons_zero, List.set_cons_succ]
              have hlt14 := BV.out.size
              have p17 := A17.out.lt
              have p10 : ∀ g, Value.ownBlock v10 = some g → g < V4.heap.size := fun g e => (OW10.out.lt g e).2
              replace BV := Lib.hid (below_new BV.out (.cells #[.slice a2 n2 c2, .slice a3 n3 c3] 22))
              replace A17 := Lib.hid (A17.out.alloc (.cells #[.slice a2 n2 c2, .slice a3 n3 c3] 22))
              replace OW10 := Lib.hid (OW10.out.alloc (.cells #[.slice a2 n2 c2, .slice a3 n3 c3] 22))
              have A14 := Lib.hid (At.new V4 (.cells #[.slice a2 n2 c2, .slice a3 n3 c3] 22))
              obtain ⟨Z14, hZ14⟩ : ∃ Z, Z = V4.heap.size := ⟨_, rfl⟩
              rw [← hZ14] at A14 hlt14 p17 p10 ⊢
              clear hZ14
              have r17_14 := Lib.hid p17
              have r10_14 := Lib.hid p10
              clear p17 p10
              generalize World.alloc V4 _ = V5 at BV hHeld A14 A17 OW10 ⊢
              refine lex_step (i := 15) rfl (by kernel_rfl) (by rfl) (fun Kx hKx => ?_)
              (go_simp; go_at_call 22; refine (concat_ints V5 Z14 0 2 a2 a3 n2 c2 n3 c3 ss st A14.out.lt (A14.out.cell 0) (A14.out.cell 1) (ints_thenX HA2.out BV.out) (ints_thenX HA3.out BV.out) (by omega) (by omega) e2 e3).mono ?_; rintro e V6 ⟨v15, rfl, own15, hb15⟩; (obtain ⟨g15, cap15, rfl, hg15, hg15l⟩ := own15.form (by omega)); try go_wp2_with fail)
              refine hKx.out _ _ ?_ (fun hHeld => ?_)
              · (try dsimp only); exact KK.out _ (below_then BV.out hb15)
              clear hKx Kx
              try simp only [Act.put, List.setIfInBounds_toArray, List.set_cons_zero, List.set_cons_succ]
              have p17 := A17.out.lt
              have ne17_15 := Lib.hid (show Z17 ≠ g15 by omega)
              clear p17
              have OW15 := Lib.hid (own_low own15 BV.out.size)
              replace OW10 := Lib.hid (own_thenI OW10.out hb15)
              replace A17 := Lib.hid (A17.out.then_ hb15)
              replace BV := Lib.hid (below_then BV.out hb15)
              clear own15 hb15 hg15 hg15l A14
              refine lex_take (i := 16) (v := ?_) rfl (by kernel_rfl) (by kernel_rfl) (by kernel_rfl) (fun _ _ _ h => h) (by rfl) ?_ (by assumption) ?_
              rotate_left
              · (intro w hSw; (try dsimp only at hSw); go_simp; try with_reducible rfl)
              try simp only [Act.put, List.setIfInBounds_toArray, List.set_cons_zero, List.set_cons_succ]
              have ne17_10 := Lib.hid (show Z17 ≠ g10 from fun e => by have := r10_17.out g10 (by rw [HV10.out]; rfl); omega)
              have hv10 := HV10.out
              subst hv10
              exact hj Z17 g10 cap10 g15 cap15 v6 Z9 Z14 V6 ⟨A17.out, OW10.out, OW15.out, ne17_10.out, ne17_15.out, BV.out, hlt17⟩
          · go_simp
            refine hKx.out _ _ ?_ (fun hHeld => ?_)
            · (try dsimp only); exact KK.out _ (below_new BV.out _)
            clear hKx Kx
            try simp only [Act.put, List.setIfInBounds_toArray, List.set_cons_zero, List.set_cons_succ]
            have hlt14 := BV.out.size
            have p9 := A9.out.lt
            have p6 : ∀ g, Value.ownBlock v6 = some g → g < V2.heap.size := fun g e => (OW6.out.lt g e).2
            replace BV := Lib.hid (below_new BV.out (.cells #[.slice a2 n2 c2, .slice a3 n3 c3] 22))
            replace A9 := Lib.hid (A9.out.alloc (.cells #[.slice a2 n2 c2, .slice a3 n3 c3] 22))
            replace OW6 := Lib.hid (OW6.out.alloc (.cells #[.slice a2 n2 c2, .slice a3 n3 c3] 22))
            have A14 := Lib.hid (At.new V2 (.cells #[.slice a2 n2 c2, .slice a3 n3 c3] 22))
            obtain ⟨Z14, hZ14⟩ : ∃ Z, Z = V2.heap.size := ⟨_, rfl⟩
            rw [← hZ14] at A14 hlt14 p9 p6 ⊢
            clear hZ14
            have r9_14 := Lib.hid p9
            have r6_14 := Lib.hid p6
            clear p9 p6
            generalize World.alloc V2 _ = V3 at BV hHeld A14 A9 OW6 ⊢
            refine lex_step2 (i := 10) (j := 17) rfl rfl (by kernel_rfl) (by rfl) (by rfl) (fun Kx hKx => ?_) (fun Kx hKx => ?_)
            · (refine wp_append_lies V3 _ _ _ (by rfl) w2.heap.size 3 i0 (.int .i64 0) 1 8 Try.underlying22 hi hz0 hz1 hz2 rfl (by decide) v6 n1 (ms.map (Value.int .i64)) (by rfl) OW6.out ⟨Z9, 0, none⟩ 1 1 [.int .i64 (n3 : Int)] (by rfl) (by rfl) (World.news_of_block (cs := #[.int .i64 (n3 : Int)]) (t := 3) (fr := (0, 0)) A9.out) (by simp [Value.oneCell']) (by decide) (by unfold maxLen; omega) (by omega) BV.out.size _ rfl ?_; intro g10 cap10 V4 own10 hgrow hlies hglt)
              refine hKx.out _ _ ?_ (fun hHeld => ?_)
              · (try dsimp only); exact KK.out _ (BV.out.grown hgrow BV.out.size (fun b hb => (OW6.out.lt b hb).1))
              clear hKx Kx
              try simp only [Act.put, List.setIfInBounds_toArray, List.set_cons_zero, List.set_cons_succ]
              replace A14 := Lib.hid (show At V4 Z14 _ from (hgrow.block Z14 A14.out.lt (fun e => by have := r6_14.out Z14 e.symm; omega)).trans A14.out)
              replace BV := Lib.hid (BV.out.grown hgrow BV.out.size (fun b hb => (OW6.out.lt b hb).1))
              obtain ⟨v10, hv10⟩ : ∃ v, v = Value.slice (some ⟨g10, 0, none⟩) (n1 + 1) cap10 := ⟨_, rfl⟩
              have HV10 := Lib.hid hv10
              rw [← hv10] at own10
              clear hv10
              have OW10 := Lib.hid own10
              clear own10 hgrow hlies hglt OW6 A9
              refine lex_step2 (i := 15) (j := 17) rfl rfl (by kernel_rfl) (by rfl) (by rfl) (fun Kx hKx => ?_) (fun Kx hKx => ?_)
              · (go_simp; go_at_call 22; refine (concat_ints V4 Z14 0 2 a2 a3 n2 c2 n3 c3 ss st A14.out.lt (A14.out.cell 0) (A14.out.cell 1) (ints_thenX HA2.out BV.out) (ints_thenX HA3.out BV.out) (by omega) (by omega) e2 e3).mono ?_; rintro e V5 ⟨v15, rfl, own15, hb15⟩; (obtain ⟨g15, cap15, rfl, hg15, hg15l⟩ := own15.form (by omega)); try go_wp2_with fail)
                refine hKx.out _ _ ?_ (fun hHeld => ?_)
                · (try dsimp only); exact KK.out _ (below_then BV.out hb15)
                clear hKx Kx
                try simp only [Act.put, List.setIfInBounds_toArray, List.set_cons_zero, List.set_cons_succ]
                have OW15 := Lib.hid (own_low own15 BV.out.size)
                replace OW10 := Lib.hid (own_thenI OW10.out hb15)
                replace BV := Lib.hid (below_then BV.out hb15)
                clear own15 hb15 hg15 hg15l A14
                refine lex_take (i := 16) (v := ?_) rfl (by kernel_rfl) (by kernel_rfl) (by kernel_rfl) (fun _ _ _ h => h) (by rfl) ?_ (by assumption) ?_
                rotate_left
                · (intro w hSw; (try dsimp only at hSw); go_simp; try with_reducible rfl)
                try simp only [Act.put, List.setIfInBounds_toArray, List.set_cons_zero, List.set_cons_succ]
                refine lex_step (i := 17) rfl (by kernel_rfl) (by rfl) (fun Kx hKx => ?_)
                go_simp
                refine hKx.out _ _ ?_ (fun hHeld => ?_)
                · (try dsimp only); exact KK.out _ (below_new BV.out _)
                clear hKx Kx
                try simp only [Act.put, List.setIfInBounds_toArray, List.set_cons_zero, List.set_cons_succ]
                have hlt17 := BV.out.size
                have p10 : ∀ g, Value.ownBlock v10 = some g → g < V5.heap.size := fun g e => (OW10.out.lt g e).2
                have p15 : ∀ g, Value.ownBlock (.slice (some ⟨g15, 0, none⟩) (n2 + n3) cap15) = some g → g < V5.heap.size := fun g e => (OW15.out.lt g e).2
                replace BV := Lib.hid (below_new BV.out (tabO ⟨#[]⟩ 0 none 0 0 none 0 0))
                replace OW10 := Lib.hid (OW10.out.alloc (tabO ⟨#[]⟩ 0 none 0 0 none 0 0))
                replace OW15 := Lib.hid (OW15.out.alloc (tabO ⟨#[]⟩ 0 none 0 0 none 0 0))
                have A17 := Lib.hid (At.new V5 (tabO ⟨#[]⟩ 0 none 0 0 none 0 0))
                obtain ⟨Z17, hZ17⟩ : ∃ Z, Z = V5.heap.size := ⟨_, rfl⟩
                rw [← hZ17] at A17 hlt17 p10 p15 ⊢
                clear hZ17
                have r10_17 := Lib.hid p10
                have r15_17 := Lib.hid p15
                clear p10 p15
                generalize World.alloc V5 _ = V6 at BV hHeld A17 OW10 OW15 ⊢
                have ne17_10 := Lib.hid (show Z17 ≠ g10 from fun e => by have := r10_17.out g10 (by rw [HV10.out]; rfl); omega)
                have ne17_15 := Lib.hid (show Z17 ≠ g15 from fun e => by have := r15_17.out g15 rfl; omega)
                have hv10 := HV10.out
                subst hv10
                exact hj Z17 g10 cap10 g15 cap15 v6 Z9 Z14 V6 ⟨A17.out, OW10.out, OW15.out, ne17_10.out, ne17_15.out, BV.out, hlt17⟩
              · go_simp
                refine hKx.out _ _ ?_ (fun hHeld => ?_)
                · (try dsimp only); exact KK.out _ (below_new BV.out _)
                clear hKx Kx
                try simp only [Act.put, List.setIfInBounds_toArray, List.set_cons_zero, List.set_cons_succ]
                have hlt17 := BV.out.size
                have p14 := A14.out.lt
                have p10 : ∀ g, Value.ownBlock v10 = some g → g < V4.heap.size := fun g e => (OW10.out.lt g e).2
                replace BV := Lib.hid (below_new BV.out (tabO ⟨#[]⟩ 0 none 0 0 none 0 0))
                replace A14 := Lib.hid (A14.out.alloc (tabO ⟨#[]⟩ 0 none 0 0 none 0 0))
                replace OW10 := Lib.hid (OW10.out.alloc (tabO ⟨#[]⟩ 0 none 0 0 none 0 0))
                have A17 := Lib.hid (At.new V4 (tabO ⟨#[]⟩ 0 none 0 0 none 0 0))
                obtain ⟨Z17, hZ17⟩ : ∃ Z, Z = V4.heap.size := ⟨_, rfl⟩
                rw [← hZ17] at A17 hlt17 p14 p10 ⊢
                clear hZ17
                have r14_17 := Lib.hid p14
                have r10_17 := Lib.hid p10
                clear p14 p10
                generalize World.alloc V4 _ = V5 at BV hHeld A17 A14 OW10 ⊢
                refine lex_step (i := 15) rfl (by kernel_rfl) (by rfl) (fun Kx hKx => ?_)
                (go_simp; go_at_call 22; refine (concat_ints V5 Z14 0 2 a2 a3 n2 c2 n3 c3 ss st A14.out.lt (A14.out.cell 0) (A14.out.cell 1) (ints_thenX HA2.out BV.out) (ints_thenX HA3.out BV.out) (by omega) (by omega) e2 e3).mono ?_; rintro e V6 ⟨v15, rfl, own15, hb15⟩; (obtain ⟨g15, cap15, rfl, hg15, hg15l⟩ := own15.form (by omega)); try go_wp2_with fail)
                refine hKx.out _ _ ?_ (fun hHeld => ?_)
                · (try dsimp only); exact KK.out _ (below_then BV.out hb15)
                clear hKx Kx
                try simp only [Act.put, List.setIfInBounds_toArray, List.set_cons_zero, List.set_cons_succ]
                have p17 := A17.out.lt
                have ne17_15 := Lib.hid (show Z17 ≠ g15 by omega)
                clear p17
                have OW15 := Lib.hid (own_low own15 BV.out.size)
                replace OW10 := Lib.hid (own_thenI OW10.out hb15)
                replace A17 := Lib.hid (A17.out.then_ hb15)
                replace BV := Lib.hid (below_then BV.out hb15)
                clear own15 hb15 hg15 hg15l A14
                refine lex_take (i := 16) (v := ?_) rfl (by kernel_rfl) (by kernel_rfl) (by kernel_rfl) (fun _ _ _ h => h) (by rfl) ?_ (by assumption) ?_
                rotate_left
                · (intro w hSw; (try dsimp only at hSw); go_simp; try with_reducible rfl)
                try simp only [Act.put, List.setIfInBounds_toArray, List.set_cons_zero, List.set_cons_succ]
                have ne17_10 := Lib.hid (show Z17 ≠ g10 from fun e => by have := r10_17.out g10 (by rw [HV10.out]; rfl); omega)
                have hv10 := HV10.out
                subst hv10
                exact hj Z17 g10 cap10 g15 cap15 v6 Z9 Z14 V6 ⟨A17.out, OW10.out, OW15.out, ne17_10.out, ne17_15.out, BV.out, hlt17⟩
            · go_simp
              refine hKx.out _ _ ?_ (fun hHeld => ?_)
              · (try dsimp only); exact KK.out _ (below_new BV.out _)
              clear hKx Kx
              try simp only [Act.put, List.setIfInBounds_toArray, List.set_cons_zero, List.set_cons_succ]
              have hlt17 := BV.out.size
              have p9 := A9.out.lt
              have p14 := A14.out.lt
              have p6 : ∀ g, Value.ownBlock v6 = some g → g < V3.heap.size := fun g e => (OW6.out.lt g e).2
              replace BV := Lib.hid (below_new BV.out (tabO ⟨#[]⟩ 0 none 0 0 none 0 0))
              replace A9 := Lib.hid (A9.out.alloc (tabO ⟨#[]⟩ 0 none 0 0 none 0 0))
              replace A14 := Lib.hid (A14.out.alloc (tabO ⟨#[]⟩ 0 none 0 0 none 0 0))
              replace OW6 := Lib.hid (OW6.out.alloc (tabO ⟨#[]⟩ 0 none 0 0 none 0 0))
              have A17 := Lib.hid (At.new V3 (tabO ⟨#[]⟩ 0 none 0 0 none 0 0))
              obtain ⟨Z17, hZ17⟩ : ∃ Z, Z = V3.heap.size := ⟨_, rfl⟩
              rw [← hZ17] at A17 hlt17 p9 p14 p6 ⊢
              clear hZ17
              have r9_17 := Lib.hid p9
              have r14_17 := Lib.hid p14
              have r6_17 := Lib.hid p6
              clear p9 p14 p6
              generalize World.alloc V3 _ = V4 at BV hHeld A17 A9 A14 OW6 ⊢
              refine lex_step (i := 10) rfl (by kernel_rfl) (by rfl) (fun Kx hKx => ?_)
              have p17b := Lib.hid A17.out.lt
              (refine wp_append_lies V4 _ _ _ (by rfl) w2.heap.size 3 i0 (.int .i64 0) 1 8 Try.underlying22 hi hz0 hz1 hz2 rfl (by decide) v6 n1 (ms.map (Value.int .i64)) (by rfl) OW6.out ⟨Z9, 0, none⟩ 1 1 [.int .i64 (n3 : Int)] (by rfl) (by rfl) (World.news_of_block (cs := #[.int .i64 (n3 : Int)]) (t := 3) (fr := (0, 0)) A9.out) (by simp [Value.oneCell']) (by decide) (by unfold maxLen; omega) (by omega) BV.out.size _ rfl ?_; intro g10 cap10 V5 own10 hgrow hlies hglt)
              refine hKx.out _ _ ?_ (fun hHeld => ?_)
              · (try dsimp only); exact KK.out _ (BV.out.grown hgrow BV.out.size (fun b hb => (OW6.out.lt b hb).1))
              clear hKx Kx
              try simp only [Act.put, List.setIfInBounds_toArray, List.set_cons_zero, List.set_cons_succ]
              replace A14 := Lib.hid (show At V5 Z14 _ from (hgrow.block Z14 A14.out.lt (fun e => by have := r6_14.out Z14 e.symm; omega)).trans A14.out)
              replace A17 := Lib.hid (show At V5 Z17 _ from (hgrow.block Z17 A17.out.lt (fun e => by have := r6_17.out Z17 e.symm; omega)).trans A17.out)
              have ne17_10 := Lib.hid (show Z17 ≠ g10 from fun e => by
                have hl := p17b.out
                rcases hlies with h | h
                · have := r6_17.out g10 h; omega
                · omega)
              replace BV := Lib.hid (BV.out.grown hgrow BV.out.size (fun b hb => (OW6.out.lt b hb).1))
              obtain ⟨v10, hv10⟩ : ∃ v, v = Value.slice (some ⟨g10, 0, none⟩) (n1 + 1) cap10 := ⟨_, rfl⟩
              have HV10 := Lib.hid hv10
              rw [← hv10] at own10
              clear hv10
              have OW10 := Lib.hid own10
              clear own10 hgrow hlies hglt OW6 A9
              refine lex_step (i := 15) rfl (by kernel_rfl) (by rfl) (fun Kx hKx => ?_)
              (go_simp; go_at_call 22; refine (concat_ints V5 Z14 0 2 a2 a3 n2 c2 n3 c3 ss st A14.out.lt (A14.out.cell 0) (A14.out.cell 1) (ints_thenX HA2.out BV.out) (ints_thenX HA3.out BV.out) (by omega) (by omega) e2 e3).mono ?_; rintro e V6 ⟨v15, rfl, own15, hb15⟩; (obtain ⟨g15, cap15, rfl, hg15, hg15l⟩ := own15.form (by omega)); try go_wp2_with fail)
              refine hKx.out _ _ ?_ (fun hHeld => ?_)
              · (try dsimp only); exact KK.out _ (below_then BV.out hb15)
              clear hKx Kx
              try simp only [Act.put, List.setIfInBounds_toArray, List.set_cons_zero, List.set_cons_succ]
              have p17 := A17.out.lt
              have ne17_15 := Lib.hid (show Z17 ≠ g15 by omega)
              clear p17
              have OW15 := Lib.hid (own_low own15 BV.out.size)
              replace OW10 := Lib.hid (own_thenI OW10.out hb15)
              replace A17 := Lib.hid (A17.out.then_ hb15)
              replace BV := Lib.hid (below_then BV.out hb15)
              clear own15 hb15 hg15 hg15l A14
              refine lex_take (i := 16) (v := ?_) rfl (by kernel_rfl) (by kernel_rfl) (by kernel_rfl) (fun _ _ _ h => h) (by rfl) ?_ (by assumption) ?_
              rotate_left
              · (intro w hSw; (try dsimp only at hSw); go_simp; try with_reducible rfl)
              try simp only [Act.put, List.setIfInBounds_toArray, List.set_cons_zero, List.set_cons_succ]
              have hv10 := HV10.out
              subst hv10
              exact hj Z17 g10 cap10 g15 cap15 v6 Z9 Z14 V6 ⟨A17.out, OW10.out, OW15.out, ne17_10.out, ne17_15.out, BV.out, hlt17⟩
          · go_simp
            refine hKx.out _ _ ?_ (fun hHeld => ?_)
            · (try dsimp only); exact KK.out _ (below_new BV.out _)
            clear hKx Kx
            try simp only [Act.put, List.setIfInBounds_toArray, List.set_cons_zero, List.set_cons_succ]
            have hlt17 := BV.out.size
            have p9 := A9.out.lt
            have p6 : ∀ g, Value.ownBlock v6 = some g → g < V2.heap.size := fun g e => (OW6.out.lt g e).2
            replace BV := Lib.hid (below_new BV.out (tabO ⟨#[]⟩ 0 none 0 0 none 0 0))
            replace A9 := Lib.hid (A9.out.alloc (tabO ⟨#[]⟩ 0 none 0 0 none 0 0))
            replace OW6 := Lib.hid (OW6.out.alloc (tabO ⟨#[]⟩ 0 none 0 0 none 0 0))
            have A17 := Lib.hid (At.new V2 (tabO ⟨#[]⟩ 0 none 0 0 none 0 0))
            obtain ⟨Z17, hZ17⟩ : ∃ Z, Z = V2.heap.size := ⟨_, rfl⟩
            rw [← hZ17] at A17 hlt17 p9 p6 ⊢
            clear hZ17
            have r9_17 := Lib.hid p9
            have r6_17 := Lib.hid p6
            clear p9 p6
            generalize World.alloc V2 _ = V3 at BV hHeld A17 A9 OW6 ⊢
            refine lex_step2 (i := 10) (j := 14) rfl rfl (by kernel_rfl) (by rfl) (by rfl) (fun Kx hKx => ?_) (fun Kx hKx => ?_)
            · have p17b := Lib.hid A17.out.lt
              (refine wp_append_lies V3 _ _ _ (by rfl) w2.heap.size 3 i0 (.int .i64 0) 1 8 Try.underlying22 hi hz0 hz1 hz2 rfl (by decide) v6 n1 (ms.map (Value.int .i64)) (by rfl) OW6.out ⟨Z9, 0, none⟩ 1 1 [.int .i64 (n3 : Int)] (by rfl) (by rfl) (World.news_of_block (cs := #[.int .i64 (n3 : Int)]) (t := 3) (fr := (0, 0)) A9.out) (by simp [Value.oneCell']) (by decide) (by unfold maxLen; omega) (by omega) BV.out.size _ rfl ?_; intro g10 cap10 V4 own10 hgrow hlies hglt)
              refine hKx.out _ _ ?_ (fun hHeld => ?_)
              · (try dsimp only); exact KK.out _ (BV.out.grown hgrow BV.out.size (fun b hb => (OW6.out.lt b hb).1))
              clear hKx Kx
              try simp only [Act.put, List.setIfInBounds_toArray, List.set_cons_zero, List.set_cons_succ]
              replace A17 := Lib.hid (show At V4 Z17 _ from (hgrow.block Z17 A17.out.lt (fun e => by have := r6_17.out Z17 e.symm; omega)).trans A17.out)
              have ne17_10 := Lib.hid (show Z17 ≠ g10 from fun e => by
                have hl := p17b.out
                rcases hlies with h | h
                · have := r6_17.out g10 h; omega
                · omega)
              replace BV := Lib.hid (BV.out.grown hgrow BV.out.size (fun b hb => (OW6.out.lt b hb).1))
              obtain ⟨v10, hv10⟩ : ∃ v, v = Value.slice (some ⟨g10, 0, none⟩) (n1 + 1) cap10 := ⟨_, rfl⟩
              have HV10 := Lib.hid hv10
              rw [← hv10] at own10
              clear hv10
              have OW10 := Lib.hid own10
              clear own10 hgrow hlies hglt OW6 A9
              refine lex_step (i := 14) rfl (by kernel_rfl) (by rfl) (fun Kx hKx => ?_)
              go_simp
              refine hKx.out _ _ ?_ (fun hHeld => ?_)
              · (try dsimp only); exact KK.out _ (below_new BV.out _)
              clear hKx Kx
              try simp only [Act.put, List.setIfInBounds_toArray, List.set_cons_zero, List.set_cons_succ]
              have hlt14 := BV.out.size
              have p17 := A17.out.lt
              have p10 : ∀ g, Value.ownBlock v10 = some g → g < V4.heap.size := fun g e => (OW10.out.lt g e).2
              replace BV := Lib.hid (below_new BV.out (.cells #[.slice a2 n2 c2, .slice a3 n3 c3] 22))
              replace A17 := Lib.hid (A17.out.alloc (.cells #[.slice a2 n2 c2, .slice a3 n3 c3] 22))
              replace OW10 := Lib.hid (OW10.out.alloc (.cells #[.slice a2 n2 c2, .slice a3 n3 c3] 22))
              have A14 := Lib.hid (At.new V4 (.cells #[.slice a2 n2 c2, .slice a3 n3 c3] 22))
              obtain ⟨Z14, hZ14⟩ : ∃ Z, Z = V4.heap.size := ⟨_, rfl⟩
              rw [← hZ14] at A14 hlt14 p17 p10 ⊢
              clear hZ14
              have r17_14 := Lib.hid p17
              have r10_14 := Lib.hid p10
              clear p17 p10
              generalize World.alloc V4 _ = V5 at BV hHeld A14 A17 OW10 ⊢
              refine lex_step (i := 15) rfl (by kernel_rfl) (by rfl) (fun Kx hKx => ?_)
              (go_simp; go_at_call 22; refine (concat_ints V5 Z14 0 2 a2 a3 n2 c2 n3 c3 ss st A14.out.lt (A14.out.cell 0) (A14.out.cell 1) (ints_thenX HA2.out BV.out) (ints_thenX HA3.out BV.out) (by omega) (by omega) e2 e3).mono ?_; rintro e V6 ⟨v15, rfl, own15, hb15⟩; (obtain ⟨g15, cap15, rfl, hg15, hg15l⟩ := own15.form (by omega)); try go_wp2_with fail)
              refine hKx.out _ _ ?_ (fun hHeld => ?_)
              · (try dsimp only); exact KK.out _ (below_then BV.out hb15)
              clear hKx Kx
              try simp only [Act.put, List.setIfInBounds_toArray, List.set_cons_zero, List.set_cons_succ]
              have p17 := A17.out.lt
              have ne17_15 := Lib.hid (show Z17 ≠ g15 by omega)
              clear p17
              have OW15 := Lib.hid (own_low own15 BV.out.size)
              replace OW10 := Lib.hid (own_thenI OW10.out hb15)
              replace A17 := Lib.hid (A17.out.then_ hb15)
              replace BV := Lib.hid (below_then BV.out hb15)
              clear own15 hb15 hg15 hg15l A14
              refine lex_take (i := 16) (v := ?_) rfl (by kernel_rfl) (by kernel_rfl) (by kernel_rfl) (fun _ _ _ h => h) (by rfl) ?_ (by assumption) ?_
              rotate_left
              · (intro w hSw; (try dsimp only at hSw); go_simp; try with_reducible rfl)
              try simp only [Act.put, List.setIfInBounds_toArray, List.set_cons_zero, List.set_cons_succ]
              have hv10 := HV10.out
              subst hv10
              exact hj Z17 g10 cap10 g15 cap15 v6 Z9 Z14 V6 ⟨A17.out, OW10.out, OW15.out, ne17_10.out, ne17_15.out, BV.out, hlt17⟩
            · go_simp
              refine hKx.out _ _ ?_ (fun hHeld => ?_)
              · (try dsimp only); exact KK.out _ (below_new BV.out _)
              clear hKx Kx
              try simp only [Act.put, List.setIfInBounds_toArray, List.set_cons_zero, List.set_cons_succ]
              have hlt14 := BV.out.size
              have p9 := A9.out.lt
              have p17 := A17.out.lt
              have p6 : ∀ g, Value.ownBlock v6 = some g → g < V3.heap.size := fun g e => (OW6.out.lt g e).2
              replace BV := Lib.hid (below_new BV.out (.cells #[.slice a2 n2 c2, .slice a3 n3 c3] 22))
              replace A9 := Lib.hid (A9.out.alloc (.cells #[.slice a2 n2 c2, .slice a3 n3 c3] 22))
              replace A17 := Lib.hid (A17.out.alloc (.cells #[.slice a2 n2 c2, .slice a3 n3 c3] 22))
              replace OW6 := Lib.hid (OW6.out.alloc (.cells #[.slice a2 n2 c2, .slice a3 n3 c3] 22))
              have A14 := Lib.hid (At.new V3 (.cells #[.slice a2 n2 c2, .slice a3 n3 c3] 22))
              obtain ⟨Z14, hZ14⟩ : ∃ Z, Z = V3.heap.size := ⟨_, rfl⟩
              rw [← hZ14] at A14 hlt14 p9 p17 p6 ⊢
              clear hZ14
              have r9_14 := Lib.hid p9
              have r17_14 := Lib.hid p17
              have r6_14 := Lib.hid p6
              clear p9 p17 p6
              generalize World.alloc V3 _ = V4 at BV hHeld A14 A9 A17 OW6 ⊢
              refine lex_step (i := 10) rfl (by kernel_rfl) (by rfl) (fun Kx hKx => ?_)
              have p17b := Lib.hid A17.out.lt
              (refine wp_append_lies V4 _ _ _ (by rfl) w2.heap.size 3 i0 (.int .i64 0) 1 8 Try.underlying22 hi hz0 hz1 hz2 rfl (by decide) v6 n1 (ms.map (Value.int .i64)) (by rfl) OW6.out ⟨Z9, 0, none⟩ 1 1 [.int .i64 (n3 : Int)] (by rfl) (by rfl) (World.news_of_block (cs := #[.int .i64 (n3 : Int)]) (t := 3) (fr := (0, 0)) A9.out) (by simp [Value.oneCell']) (by decide) (by unfold maxLen; omega) (by omega) BV.out.size _ rfl ?_; intro g10 cap10 V5 own10 hgrow hlies hglt)
              refine hKx.out _ _ ?_ (fun hHeld => ?_)
              · (try dsimp only); exact KK.out _ (BV.out.grown hgrow BV.out.size (fun b hb => (OW6.out.lt b hb).1))
              clear hKx Kx
              try simp only [Act.put, List.setIfInBounds_toArray, List.set_cons_zero, List.set_cons_succ]
              replace A14 := Lib.hid (show At V5 Z14 _ from (hgrow.block Z14 A14.out.lt (fun e => by have := r6_14.out Z14 e.symm; omega)).trans A14.out)
              replace A17 := Lib.hid (show At V5 Z17 _ from (hgrow.block Z17 A17.out.lt (fun e => by have := r6_17.out Z17 e.symm; omega)).trans A17.out)
              have ne17_10 := Lib.hid (show Z17 ≠ g10 from fun e => by
                have hl := p17b.out
                rcases hlies with h | h
                · have := r6_17.out g10 h; omega
                · omega)
              replace BV := Lib.hid (BV.out.grown hgrow BV.out.size (fun b hb => (OW6.out.lt b hb).1))
              obtain ⟨v10, hv10⟩ : ∃ v, v = Value.slice (some ⟨g10, 0, none⟩) (n1 + 1) cap10 := ⟨_, rfl⟩
              have HV10 := Lib.hid hv10
              rw [← hv10] at own10
              clear hv10
              have OW10 := Lib.hid own10
              clear own10 hgrow hlies hglt OW6 A9
              refine lex_step (i := 15) rfl (by kernel_rfl) (by rfl) (fun Kx hKx => ?_)
              (go_simp; go_at_call 22; refine (concat_ints V5 Z14 0 2 a2 a3 n2 c2 n3 c3 ss st A14.out.lt (A14.out.cell 0) (A14.out.cell 1) (ints_thenX HA2.out BV.out) (ints_thenX HA3.out BV.out) (by omega) (by omega) e2 e3).mono ?_; rintro e V6 ⟨v15, rfl, own15, hb15⟩; (obtain ⟨g15, cap15, rfl, hg15, hg15l⟩ := own15.form (by omega)); try go_wp2_with fail)
              refine hKx.out _ _ ?_ (fun hHeld => ?_)
              · (try dsimp only); exact KK.out _ (below_then BV.out hb15)
              clear hKx Kx
              try simp only [Act.put, List.setIfInBounds_toArray, List.set_cons_zero, List.set_cons_succ]
              have p17 := A17.out.lt
              have ne17_15 := Lib.hid (show Z17 ≠ g15 by omega)
              clear p17
              have OW15 := Lib.hid (own_low own15 BV.out.size)
              replace OW10 := Lib.hid (own_thenI OW10.out hb15)
              replace A17 := Lib.hid (A17.out.then_ hb15)
              replace BV := Lib.hid (below_then BV.out hb15)
              clear own15 hb15 hg15 hg15l A14
              refine lex_take (i := 16) (v := ?_) rfl (by kernel_rfl) (by kernel_rfl) (by kernel_rfl) (fun _ _ _ h => h) (by rfl) ?_ (by assumption) ?_
              rotate_left
              · (intro w hSw; (try dsimp only at hSw); go_simp; try with_reducible rfl)
              try simp only [Act.put, List.setIfInBounds_toArray, List.set_cons_zero, List.set_cons_succ]
              have hv10 := HV10.out
              subst hv10
              exact hj Z17 g10 cap10 g15 cap15 v6 Z9 Z14 V6 ⟨A17.out, OW10.out, OW15.out, ne17_10.out, ne17_15.out, BV.out, hlt17⟩
        · as_aux_lemma =>
          go_simp
          refine hKx.out _ _ ?_ (fun hHeld => ?_)
          · (try dsimp only); exact KK.out _ (below_new BV.out _)
          clear hKx Kx
          try simp only [Act.put, List.setIfInBounds_toArray, List.set_cons_zero, List.set_cons_succ]
          have hlt14 := BV.out.size
          have p9 := A9.out.lt
          replace BV := Lib.hid (below_new BV.out (.cells #[.slice a2 n2 c2, .slice a3 n3 c3] 22))
          replace A9 := Lib.hid (A9.out.alloc (.cells #[.slice a2 n2 c2, .slice a3 n3 c3] 22))
          have A14 := Lib.hid (At.new V1 (.cells #[.slice a2 n2 c2, .slice a3 n3 c3] 22))
          obtain ⟨Z14, hZ14⟩ : ∃ Z, Z = V1.heap.size := ⟨_, rfl⟩
          rw [← hZ14] at A14 hlt14 p9 ⊢
          clear hZ14
          have r9_14 := Lib.hid p9
          clear p9
          generalize World.alloc V1 _ = V2 at BV hHeld A14 A9 ⊢
          refine lex_step2 (i := 6) (j := 17) rfl rfl (by kernel_rfl) (by rfl) (by rfl) (fun Kx hKx => ?_) (fun Kx hKx => ?_)
          · (go_simp; go_at_call 21; refine (clone_ints V2 a1 n1 c1 ms (ints_thenX HA1.out BV.out) (by omega)).mono ?_; rintro e V3 ⟨v6, rfl, own6, hb6⟩; try go_wp2_with fail)
            refine hKx.out _ _ ?_ (fun hHeld => ?_)
            · (try dsimp only); exact KK.out _ (below_then BV.out hb6)
            clear hKx Kx
            try simp only [Act.put, List.setIfInBounds_toArray, List.set_cons_zero, List.set_cons_succ]
            have p9 := A9.out.lt
            have p14 := A14.out.lt
            have r9_6 := Lib.hid (show ∀ g, Value.ownBlock v6 = some g → Z9 < g from fun g e => by have := (own6.lt g e).1; omega)
            have r14_6 := Lib.hid (show ∀ g, Value.ownBlock v6 = some g → Z14 < g from fun g e => by have := (own6.lt g e).1; omega)
            clear p9 p14
            have OW6 := Lib.hid (own_low own6 BV.out.size)
            replace A9 := Lib.hid (A9.out.then_ hb6)
            replace A14 := Lib.hid (A14.out.then_ hb6)
            replace BV := Lib.hid (below_then BV.out hb6)
            clear own6 hb6
            refine lex_step2 (i := 10) (j := 17) rfl rfl (by kernel_rfl) (by rfl) (by rfl) (fun Kx hKx => ?_) (fun Kx hKx => ?_)
            · (refine wp_append_lies V3 _ _ _ (by rfl) w2.heap.size 3 i0 (.int .i64 0) 1 8 Try.underlying22 hi hz0 hz1 hz2 rfl (by decide) v6 n1 (ms.map (Value.int .i64)) (by rfl) OW6.out ⟨Z9, 0, none⟩ 1 1 [.int .i64 (n3 : Int)] (by rfl) (by rfl) (World.news_of_block (cs := #[.int .i64 (n3 : Int)]) (t := 3) (fr := (0, 0)) A9.out) (by simp [Value.oneCell']) (by decide) (by unfold maxLen; omega) (by omega) BV.out.size _ rfl ?_; intro g10 cap10 V4 own10 hgrow hlies hglt)
              refine hKx.out _ _ ?_ (fun hHeld => ?_)
              · (try dsimp only); exact KK.out _ (BV.out.grown hgrow BV.out.size (fun b hb => (OW6.out.lt b hb).1))
              clear hKx Kx
              try simp only [Act.put, List.setIfInBounds_toArray, List.set_cons_zero, List.set_cons_succ]
              replace A14 := Lib.hid (show At V4 Z14 _ from (hgrow.block Z14 A14.out.lt (fun e => by have := r14_6.out Z14 e.symm; omega)).trans A14.out)
              replace BV := Lib.hid (BV.out.grown hgrow BV.out.size (fun b hb => (OW6.out.lt b hb).1))
              obtain ⟨v10, hv10⟩ : ∃ v, v = Value.slice (some ⟨g10, 0, none⟩) (n1 + 1) cap10 := ⟨_, rfl⟩
              have HV10 := Lib.hid hv10
              rw [← hv10] at own10
              clear hv10
              have OW10 := Lib.hid own10
              clear own10 hgrow hlies hglt OW6 A9
              refine lex_step2 (i := 15) (j := 17) rfl rfl (by kernel_rfl) (by rfl) (by rfl) (fun Kx hKx => ?_) (fun Kx hKx => ?_)
              · (go_simp; go_at_call 22; refine (concat_ints V4 Z14 0 2 a2 a3 n2 c2 n3 c3 ss st A14.out.lt (A14.out.cell 0) (A14.out.cell 1) (ints_thenX HA2.out BV.out) (ints_thenX HA3.out BV.out) (by omega) (by omega) e2 e3).mono ?_; rintro e V5 ⟨v15, rfl, own15, hb15⟩; (obtain ⟨g15, cap15, rfl, hg15, hg15l⟩ := own15.form (by omega)); try go_wp2_with fail)
                refine hKx.out _ _ ?_ (fun hHeld => ?_)
                · (try dsimp only); exact KK.out _ (below_then BV.out hb15)
                clear hKx Kx
                try simp only [Act.put, List.setIfInBounds_toArray, List.set_cons_zero, List.set_cons_succ]
                have OW15 := Lib.hid (own_low own15 BV.out.size)
                replace OW10 := Lib.hid (own_thenI OW10.out hb15)
                replace BV := Lib.hid (below_then BV.out hb15)
                clear own15 hb15 hg15 hg15l A14
                refine lex_take (i := 16) (v := ?_) rfl (by kernel_rfl) (by kernel_rfl) (by kernel_rfl) (fun _ _ _ h => h) (by rfl) ?_ (by assumption) ?_
                rotate_left
                · (intro w hSw; (try dsimp only at hSw); go_simp; try with_reducible rfl)
                try simp only [Act.put, List.setIfInBounds_toArray, List.set_cons_zero, List.set_cons_succ]
                refine lex_step (i := 17) rfl (by kernel_rfl) (by rfl) (fun Kx hKx => ?_)
                go_simp
                refine hKx.out _ _ ?_ (fun hHeld => ?_)
                · (try dsimp only); exact KK.out _ (below_new BV.out _)
                clear hKx Kx
                try simp only [Act.put, List.setIfInBounds_toArray, List.set_cons_zero, List.set_cons_succ]
                have hlt17 := BV.out.size
                have p10 : ∀ g, Value.ownBlock v10 = some g → g < V5.heap.size := fun g e => (OW10.out.lt g e).2
                have p15 : ∀ g, Value.ownBlock (.slice (some ⟨g15, 0, none⟩) (n2 + n3) cap15) = some g → g < V5.heap.size := fun g e => (OW15.out.lt g e).2
                replace BV := Lib.hid (below_new BV.out (tabO ⟨#[]⟩ 0 none 0 0 none 0 0))
                replace OW10 := Lib.hid (OW10.out.alloc (tabO ⟨#[]⟩ 0 none 0 0 none 0 0))
                replace OW15 := Lib.hid (OW15.out.alloc (tabO ⟨#[]⟩ 0 none 0 0 none 0 0))
                have A17 := Lib.hid (At.new V5 (tabO ⟨#[]⟩ 0 none 0 0 none 0 0))
                obtain ⟨Z17, hZ17⟩ : ∃ Z, Z = V5.heap.size := ⟨_, rfl⟩
                rw [← hZ17] at A17 hlt17 p10 p15 ⊢
                clear hZ17
                have r10_17 := Lib.hid p10
                have r15_17 := Lib.hid p15
                clear p10 p15
                generalize World.alloc V5 _ = V6 at BV hHeld A17 OW10 OW15 ⊢
                have ne17_10 := Lib.hid (show Z17 ≠ g10 from fun e => by have := r10_17.out g10 (by rw [HV10.out]; rfl); omega)
                have ne17_15 := Lib.hid (show Z17 ≠ g15 from fun e => by have := r15_17.out g15 rfl; omega)
                have hv10 := HV10.out
                subst hv10
                exact hj Z17 g10 cap10 g15 cap15 v6 Z9 Z14 V6 ⟨A17.out, OW10.out, OW15.out, ne17_10.out, ne17_15.out, BV.out, hlt17⟩
              · go_simp
                refine hKx.out _ _ ?_ (fun hHeld => ?_)
                · (try dsimp only); exact KK.out _ (below_new BV.out _)
                clear hKx Kx
                try simp only [Act.put, List.setIfInBounds_toArray, List.set_cons_zero, List.set_cons_succ]
                have hlt17 := BV.out.size
                have p14 := A14.out.lt
                have p10 : ∀ g, Value.ownBlock v10 = some g → g < V4.heap.size := fun g e => (OW10.out.lt g e).2
                replace BV := Lib.hid (below_new BV.out (tabO ⟨#[]⟩ 0 none 0 0 none 0 0))
                replace A14 := Lib.hid (A14.out.alloc (tabO ⟨#[]⟩ 0 none 0 0 none 0 0))
                replace OW10 := Lib.hid (OW10.out.alloc (tabO ⟨#[]⟩ 0 none 0 0 none 0 0))
                have A17 := Lib.hid (At.new V4 (tabO ⟨#[]⟩ 0 none 0 0 none 0 0))
                obtain ⟨Z17, hZ17⟩ : ∃ Z, Z = V4.heap.size := ⟨_, rfl⟩
                rw [← hZ17] at A17 hlt17 p14 p10 ⊢
                clear hZ17
                have r14_17 := Lib.hid p14
                have r10_17 := Lib.hid p10
                clear p14 p10
                generalize World.alloc V4 _ = V5 at BV hHeld A17 A14 OW10 ⊢
                refine lex_step (i := 15) rfl (by kernel_rfl) (by rfl) (fun Kx hKx => ?_)
                (go_simp; go_at_call 22; refine (concat_ints V5 Z14 0 2 a2 a3 n2 c2 n3 c3 ss st A14.out.lt (A14.out.cell 0) (A14.out.cell 1) (ints_thenX HA2.out BV.out) (ints_thenX HA3.out BV.out) (by omega) (by omega) e2 e3).mono ?_; rintro e V6 ⟨v15, rfl, own15, hb15⟩; (obtain ⟨g15, cap15, rfl, hg15, hg15l⟩ := own15.form (by omega)); try go_wp2_with fail)
                refine hKx.out _ _ ?_ (fun hHeld => ?_)
                · (try dsimp only); exact KK.out _ (below_then BV.out hb15)
                clear hKx Kx
                try simp only [Act.put, List.setIfInBounds_toArray, List.set_cons_zero, List.set_cons_succ]
                have p17 := A17.out.lt
                have ne17_15 := Lib.hid (show Z17 ≠ g15 by omega)
                clear p17
                have OW15 := Lib.hid (own_low own15 BV.out.size)
                replace OW10 := Lib.hid (own_thenI OW10.out hb15)
                replace A17 := Lib.hid (A17.out.then_ hb15)
                replace BV := Lib.hid (below_then BV.out hb15)
                clear own15 hb15 hg15 hg15l A14
                refine lex_take (i := 16) (v := ?_) rfl (by kernel_rfl) (by kernel_rfl) (by kernel_rfl) (fun _ _ _ h => h) (by rfl) ?_ (by assumption) ?_
                rotate_left
                · (intro w hSw; (try dsimp only at hSw); go_simp; try with_reducible rfl)
                try simp only [Act.put, List.setIfInBounds_toArray, List.set_cons_zero, List.set_cons_succ]
                have ne17_10 := Lib.hid (show Z17 ≠ g10 from fun e => by have := r10_17.out g10 (by rw [HV10.out]; rfl); omega)
                have hv10 := HV10.out
                subst hv10
                exact hj Z17 g10 cap10 g15 cap15 v6 Z9 Z14 V6 ⟨A17.out, OW10.out, OW15.out, ne17_10.out, ne17_15.out, BV.out, hlt17⟩
            · go_simp
              refine hKx.out _ _ ?_ (fun hHeld => ?_)
              · (try dsimp only); exact KK.out _ (below_new BV.out _)
              clear hKx Kx
              try simp only [Act.put, List.setIfInBounds_toArray, List.set_cons_zero, List.set_cons_succ]
              have hlt17 := BV.out.size
              have p9 := A9.out.lt
              have p14 := A14.out.lt
              have p6 : ∀ g, Value.ownBlock v6 = some g → g < V3.heap.size := fun g e => (OW6.out.lt g e).2
              replace BV := Lib.hid (below_new BV.out (tabO ⟨#[]⟩ 0 none 0 0 none 0 0))
              replace A9 := Lib.hid (A9.out.alloc (tabO ⟨#[]⟩ 0 none 0 0 none 0 0))
              replace A14 := Lib.hid (A14.out.alloc (tabO ⟨#[]⟩ 0 none 0 0 none 0 0))
              replace OW6 := Lib.hid (OW6.out.alloc (tabO ⟨#[]⟩ 0 none 0 0 none 0 0))
              have A17 := Lib.hid (At.new V3 (tabO ⟨#[]⟩ 0 none 0 0 none 0 0))
              obtain ⟨Z17, hZ17⟩ : ∃ Z, Z = V3.heap.size := ⟨_, rfl⟩
              rw [← hZ17] at A17 hlt17 p9 p14 p6 ⊢
              clear hZ17
              have r9_17 := Lib.hid p9
              have r14_17 := Lib.hid p14
              have r6_17 := Lib.hid p6
              clear p9 p14 p6
              generalize World.alloc V3 _ = V4 at BV hHeld A17 A9 A14 OW6 ⊢
              refine lex_step (i := 10) rfl (by kernel_rfl) (by rfl) (fun Kx hKx => ?_)
              have p17b := Lib.hid A17.out.lt
              (refine wp_append_lies V4 _ _ _ (by rfl) w2.heap.size 3 i0 (.int .i64 0) 1 8 Try.underlying22 hi hz0 hz1 hz2 rfl (by decide) v6 n1 (ms.map (Value.int .i64)) (by rfl) OW6.out ⟨Z9, 0, none⟩ 1 1 [.int .i64 (n3 : Int)] (by rfl) (by rfl) (World.news_of_block (cs := #[.int .i64 (n3 : Int)]) (t := 3) (fr := (0, 0)) A9.out) (by simp [Value.oneCell']) (by decide) (by unfold maxLen; omega) (by omega) BV.out.size _ rfl ?_; intro g10 cap10 V5 own10 hgrow hlies hglt)
              refine hKx.out _ _ ?_ (fun hHeld => ?_)
              · (try dsimp only); exact KK.out _ (BV.out.grown hgrow BV.out.size (fun b hb => (OW6.out.lt b hb).1))
              clear hKx Kx
              try simp only [Act.put, List.setIfInBounds_toArray, List.set_cons_zero, List.set_cons_succ]
              replace A14 := Lib.hid (show At V5 Z14 _ from (hgrow.block Z14 A14.out.lt (fun e => by have := r14_6.out Z14 e.symm; omega)).trans A14.out)
              replace A17 := Lib.hid (show At V5 Z17 _ from (hgrow.block Z17 A17.out.lt (fun e => by have := r6_17.out Z17 e.symm; omega)).trans A17.out)
              have ne17_10 := Lib.hid (show Z17 ≠ g10 from fun e => by
                have hl := p17b.out
                rcases hlies with h | h
                · have := r6_17.out g10 h; omega
                · omega)
              replace BV := Lib.hid (BV.out.grown hgrow BV.out.size (fun b hb => (OW6.out.lt b hb).1))
              obtain ⟨v10, hv10⟩ : ∃ v, v = Value.slice (some ⟨g10, 0, none⟩) (n1 + 1) cap10 := ⟨_, rfl⟩
              have HV10 := Lib.hid hv10
              rw [← hv10] at own10
              clear hv10
              have OW10 := Lib.hid own10
              clear own10 hgrow hlies hglt OW6 A9
              refine lex_step (i := 15) rfl (by kernel_rfl) (by rfl) (fun Kx hKx => ?_)
              (go_simp; go_at_call 22; refine (concat_ints V5 Z14 0 2 a2 a3 n2 c2 n3 c3 ss st A14.out.lt (A14.out.cell 0) (A14.out.cell 1) (ints_thenX HA2.out BV.out) (ints_thenX HA3.out BV.out) (by omega) (by omega) e2 e3).mono ?_; rintro e V6 ⟨v15, rfl, own15, hb15⟩; (obtain ⟨g15, cap15, rfl, hg15, hg15l⟩ := own15.form (by omega)); try go_wp2_with fail)
              refine hKx.out _ _ ?_ (fun hHeld => ?_)
              · (try dsimp only); exact KK.out _ (below_then BV.out hb15)
              clear hKx Kx
              try simp only [Act.put, List.setIfInBounds_toArray, List.set_cons_zero, List.set_cons_succ]
              have p17 := A17.out.lt
              have ne17_15 := Lib.hid (show Z17 ≠ g15 by omega)
              clear p17
              have OW15 := Lib.hid (own_low own15 BV.out.size)
              replace OW10 := Lib.hid (own_thenI OW10.out hb15)
              replace A17 := Lib.hid (A17.out.then_ hb15)
              replace BV := Lib.hid (below_then BV.out hb15)
              clear own15 hb15 hg15 hg15l A14
              refine lex_take (i := 16) (v := ?_) rfl (by kernel_rfl) (by kernel_rfl) (by kernel_rfl) (fun _ _ _ h => h) (by rfl) ?_ (by assumption) ?_
              rotate_left
              · (intro w hSw; (try dsimp only at hSw); go_simp; try with_reducible rfl)
              try simp only [Act.put, List.setIfInBounds_toArray, List.set_cons_zero, List.set_cons_succ]
              have hv10 := HV10.out
              subst hv10
              exact hj Z17 g10 cap10 g15 cap15 v6 Z9 Z14 V6 ⟨A17.out, OW10.out, OW15.out, ne17_10.out, ne17_15.out, BV.out, hlt17⟩
          · go_simp
            refine hKx.out _ _ ?_ (fun hHeld => ?_)
            · (try dsimp only); exact KK.out _ (below_new BV.out _)
            clear hKx Kx
            try simp only [Act.put, List.setIfInBounds_toArray, List.set_cons_zero, List.set_cons_succ]
            have hlt17 := BV.out.size
            have p9 := A9.out.lt
            have p14 := A14.out.lt
            replace BV := Lib.hid (below_new BV.out (tabO ⟨#[]⟩ 0 none 0 0 none 0 0))
            replace A9 := Lib.hid (A9.out.alloc (tabO ⟨#[]⟩ 0 none 0 0 none 0 0))
            replace A14 := Lib.hid (A14.out.alloc (tabO ⟨#[]⟩ 0 none 0 0 none 0 0))
            have A17 := Lib.hid (At.new V2 (tabO ⟨#[]⟩ 0 none 0 0 none 0 0))
            obtain ⟨Z17, hZ17⟩ : ∃ Z, Z = V2.heap.size := ⟨_, rfl⟩
            rw [← hZ17] at A17 hlt17 p9 p14 ⊢
            clear hZ17
            have r9_17 := Lib.hid p9
            have r14_17 := Lib.hid p14
            clear p9 p14
            generalize World.alloc V2 _ = V3 at BV hHeld A17 A9 A14 ⊢
            refine lex_step (i := 6) rfl (by kernel_rfl) (by rfl) (fun Kx hKx => ?_)
            (go_simp; go_at_call 21; refine (clone_ints V3 a1 n1 c1 ms (ints_thenX HA1.out BV.out) (by omega)).mono ?_; rintro e V4 ⟨v6, rfl, own6, hb6⟩; try go_wp2_with fail)
            refine hKx.out _ _ ?_ (fun hHeld => ?_)
            · (try dsimp only); exact KK.out _ (below_then BV.out hb6)
            clear hKx Kx
            try simp only [Act.put, List.setIfInBounds_toArray, List.set_cons_zero, List.set_cons_succ]
            have p9 := A9.out.lt
            have p14 := A14.out.lt
            have p17 := A17.out.lt
            have r9_6 := Lib.hid (show ∀ g, Value.ownBlock v6 = some g → Z9 < g from fun g e => by have := (own6.lt g e).1; omega)
            have r14_6 := Lib.hid (show ∀ g, Value.ownBlock v6 = some g → Z14 < g from fun g e => by have := (own6.lt g e).1; omega)
            have r17_6 := Lib.hid (show ∀ g, Value.ownBlock v6 = some g → Z17 < g from fun g e => by have := (own6.lt g e).1; omega)
            clear p9 p14 p17
            have OW6 := Lib.hid (own_low own6 BV.out.size)
            replace A9 := Lib.hid (A9.out.then_ hb6)
            replace A14 := Lib.hid (A14.out.then_ hb6)
            replace A17 := Lib.hid (A17.out.then_ hb6)
            replace BV := Lib.hid (below_then BV.out hb6)
            clear own6 hb6
            refine lex_step (i := 10) rfl (by kernel_rfl) (by rfl) (fun Kx hKx => ?_)
            have p17b := Lib.hid A17.out.lt
            (refine wp_append_lies V4 _ _ _ (by rfl) w2.heap.size 3 i0 (.int .i64 0) 1 8 Try.underlying22 hi hz0 hz1 hz2 rfl (by decide) v6 n1 (ms.map (Value.int .i64)) (by rfl) OW6.out ⟨Z9, 0, none⟩ 1 1 [.int .i64 (n3 : Int)] (by rfl) (by rfl) (World.news_of_block (cs := #[.int .i64 (n3 : Int)]) (t := 3) (fr := (0, 0)) A9.out) (by simp [Value.oneCell']) (by decide) (by unfold maxLen; omega) (by omega) BV.out.size _ rfl ?_; intro g10 cap10 V5 own10 hgrow hlies hglt)
            refine hKx.out _ _ ?_ (fun hHeld => ?_)
            · (try dsimp only); exact KK.out _ (BV.out.grown hgrow BV.out.size (fun b hb => (OW6.out.lt b hb).1))
            clear hKx Kx
            try simp only [Act.put, List.setIfInBounds_toArray, List.set_cons_zero, List.set_cons_succ]
            replace A14 := Lib.hid (show At V5 Z14 _ from (hgrow.block Z14 A14.out.lt (fun e => by have := r14_6.out Z14 e.symm; omega)).trans A14.out)
            replace A17 := Lib.hid (show At V5 Z17 _ from (hgrow.block Z17 A17.out.lt (fun e => by have := r17_6.out Z17 e.symm; omega)).trans A17.out)
            have ne17_10 := Lib.hid (show Z17 ≠ g10 from fun e => by
              have hl := p17b.out
              rcases hlies with h | h
              · have := r17_6.out g10 h; omega
              · omega)
            replace BV := Lib.hid (BV.out.grown hgrow BV.out.size (fun b hb => (OW6.out.lt b hb).1))
            obtain ⟨v10, hv10⟩ : ∃ v, v = Value.slice (some ⟨g10, 0, none⟩) (n1 + 1) cap10 := ⟨_, rfl⟩
            have HV10 := Lib.hid hv10
            rw [← hv10] at own10
            clear hv10
            have OW10 := Lib.hid own10
            clear own10 hgrow hlies hglt OW6 A9
            refine lex_step (i := 15) rfl (by kernel_rfl) (by rfl) (fun Kx hKx => ?_)
            (go_simp; go_at_call 22; refine (concat_ints V5 Z14 0 2 a2 a3 n2 c2 n3 c3 ss st A14.out.lt (A14.out.cell 0) (A14.out.cell 1) (ints_thenX HA2.out BV.out) (ints_thenX HA3.out BV.out) (by omega) (by omega) e2 e3).mono ?_; rintro e V6 ⟨v15, rfl, own15, hb15⟩; (obtain ⟨g15, cap15, rfl, hg15, hg15l⟩ := own15.form (by omega)); try go_wp2_with fail)
            refine hKx.out _ _ ?_ (fun hHeld => ?_)
            · (try dsimp only); exact KK.out _ (below_then BV.out hb15)
            clear hKx Kx
            try simp only [Act.put, List.setIfInBounds_toArray, List.set_cons_zero, List.set_cons_succ]
            have p17 := A17.out.lt
            have ne17_15 := Lib.hid (show Z17 ≠ g15 by omega)
            clear p17
            have OW15 := Lib.hid (own_low own15 BV.out.size)
            replace OW10 := Lib.hid (own_thenI OW10.out hb15)
            replace A17 := Lib.hid (A17.out.then_ hb15)
            replace BV := Lib.hid (below_then BV.out hb15)
            clear own15 hb15 hg15 hg15l A14
            refine lex_take (i := 16) (v := ?_) rfl (by kernel_rfl) (by kernel_rfl) (by kernel_rfl) (fun _ _ _ h => h) (by rfl) ?_ (by assumption) ?_
            rotate_left
            · (intro w hSw; (try dsimp only at hSw); go_simp; try with_reducible rfl)
            try simp only [Act.put, List.setIfInBounds_toArray, List.set_cons_zero, List.set_cons_succ]
            have hv10 := HV10.out
            subst hv10
            exact hj Z17 g10 cap10 g15 cap15 v6 Z9 Z14 V6 ⟨A17.out, OW10.out, OW15.out, ne17_10.out, ne17_15.out, BV.out, hlt17⟩
        · as_aux_lemma =>
          go_simp
          refine hKx.out _ _ ?_ (fun hHeld => ?_)
          · (try dsimp only); exact KK.out _ (below_new BV.out _)
          clear hKx Kx
          try simp only [Act.put, List.setIfInBounds_toArray, List.set_cons_zero, List.set_cons_succ]
          have hlt17 := BV.out.size
          have p9 := A9.out.lt
          replace BV := Lib.hid (below_new BV.out (tabO ⟨#[]⟩ 0 none 0 0 none 0 0))
          replace A9 := Lib.hid (A9.out.alloc (tabO ⟨#[]⟩ 0 none 0 0 none 0 0))
          have A17 := Lib.hid (At.new V1 (tabO ⟨#[]⟩ 0 none 0 0 none 0 0))
          obtain ⟨Z17, hZ17⟩ : ∃ Z, Z = V1.heap.size := ⟨_, rfl⟩
          rw [← hZ17] at A17 hlt17 p9 ⊢
          clear hZ17
          have r9_17 := Lib.hid p9
          clear p9
          generalize World.alloc V1 _ = V2 at BV hHeld A17 A9 ⊢
          refine lex_step2 (i := 6) (j := 14) rfl rfl (by kernel_rfl) (by rfl) (by rfl) (fun Kx hKx => ?_) (fun Kx hKx => ?_)
          · (go_simp; go_at_call 21; refine (clone_ints V2 a1 n1 c1 ms (ints_thenX HA1.out BV.out) (by omega)).mono ?_; rintro e V3 ⟨v6, rfl, own6, hb6⟩; try go_wp2_with fail)
            refine hKx.out _ _ ?_ (fun hHeld => ?_)
            · (try dsimp only); exact KK.out _ (below_then BV.out hb6)
            clear hKx Kx
            try simp only [Act.put, List.setIfInBounds_toArray, List.set_cons_zero, List.set_cons_succ]
            have p9 := A9.out.lt
            have p17 := A17.out.lt
            have r9_6 := Lib.hid (show ∀ g, Value.ownBlock v6 = some g → Z9 < g from fun g e => by have := (own6.lt g e).1; omega)
            have r17_6 := Lib.hid (show ∀ g, Value.ownBlock v6 = some g → Z17 < g from fun g e => by have := (own6.lt g e).1; omega)
            clear p9 p17
            have OW6 := Lib.hid (own_low own6 BV.out.size)
            replace A9 := Lib.hid (A9.out.then_ hb6)
            replace A17 := Lib.hid (A17.out.then_ hb6)
            replace BV := Lib.hid (below_then BV.out hb6)
            clear own6 hb6
            refine lex_step2 (i := 10) (j := 14) rfl rfl (by kernel_rfl) (by rfl) (by rfl) (fun Kx hKx => ?_) (fun Kx hKx => ?_)
            · have p17b := Lib.hid A17.out.lt
              (refine wp_append_lies V3 _ _ _ (by rfl) w2.heap.size 3 i0 (.int .i64 0) 1 8 Try.underlying22 hi hz0 hz1 hz2 rfl (by decide) v6 n1 (ms.map (Value.int .i64)) (by rfl) OW6.out ⟨Z9, 0, none⟩ 1 1 [.int .i64 (n3 : Int)] (by rfl) (by rfl) (World.news_of_block (cs := #[.int .i64 (n3 : Int)]) (t := 3) (fr := (0, 0)) A9.out) (by simp [Value.oneCell']) (by decide) (by unfold maxLen; omega) (by omega) BV.out.size _ rfl ?_; intro g10 cap10 V4 own10 hgrow hlies hglt)
              refine hKx.out _ _ ?_ (fun hHeld => ?_)
              · (try dsimp only); exact KK.out _ (BV.out.grown hgrow BV.out.size (fun b hb => (OW6.out.lt b hb).1))
              clear hKx Kx
              try simp only [Act.put, List.setIfInBounds_toArray, List.set_cons_zero, List.set_cons_succ]
              replace A17 := Lib.hid (show At V4 Z17 _ from (hgrow.block Z17 A17.out.lt (fun e => by have := r17_6.out Z17 e.symm; omega)).trans A17.out)
              have ne17_10 := Lib.hid (show Z17 ≠ g10 from fun e => by
                have hl := p17b.out
                rcases hlies with h | h
                · have := r17_6.out g10 h; omega
                · omega)
              replace BV := Lib.hid (BV.out.grown hgrow BV.out.size (fun b hb => (OW6.out.lt b hb).1))
              obtain ⟨v10, hv10⟩ : ∃ v, v = Value.slice (some ⟨g10, 0, none⟩) (n1 + 1) cap10 := ⟨_, rfl⟩
              have HV10 := Lib.hid hv10
              rw [← hv10] at own10
              clear hv10
              have OW10 := Lib.hid own10
              clear own10 hgrow hlies hglt OW6 A9
              refine lex_step (i := 14) rfl (by kernel_rfl) (by rfl) (fun Kx hKx => ?_)
              go_simp
              refine hKx.out _ _ ?_ (fun hHeld => ?_)
              · (try dsimp only); exact KK.out _ (below_new BV.out _)
              clear hKx Kx
              try simp only [Act.put, List.setIfInBounds_toArray, List.set_cons_zero, List.set_cons_succ]
              have hlt14 := BV.out.size
              have p17 := A17.out.lt
              have p10 : ∀ g, Value.ownBlock v10 = some g → g < V4.heap.size := fun g e => (OW10.out.lt g e).2
              replace BV := Lib.hid (below_new BV.out (.cells #[.slice a2 n2 c2, .slice a3 n3 c3] 22))
              replace A17 := Lib.hid (A17.out.alloc (.cells #[.slice a2 n2 c2, .slice a3 n3 c3] 22))
              replace OW10 := Lib.hid (OW10.out.alloc (.cells #[.slice a2 n2 c2, .slice a3 n3 c3] 22))
              have A14 := Lib.hid (At.new V4 (.cells #[.slice a2 n2 c2, .slice a3 n3 c3] 22))
              obtain ⟨Z14, hZ14⟩ : ∃ Z, Z = V4.heap.size := ⟨_, rfl⟩
              rw [← hZ14] at A14 hlt14 p17 p10 ⊢
              clear hZ14
              have r17_14 := Lib.hid p17
              have r10_14 := Lib.hid p10
              clear p17 p10
              generalize World.alloc V4 _ = V5 at BV hHeld A14 A17 OW10 ⊢
              refine lex_step (i := 15) rfl (by kernel_rfl) (by rfl) (fun Kx hKx => ?_)
              (go_simp; go_at_call 22; refine (concat_ints V5 Z14 0 2 a2 a3 n2 c2 n3 c3 ss st A14.out.lt (A14.out.cell 0) (A14.out.cell 1) (ints_thenX HA2.out BV.out) (ints_thenX HA3.out BV.out) (by omega) (by omega) e2 e3).mono ?_; rintro e V6 ⟨v15, rfl, own15, hb15⟩; (obtain ⟨g15, cap15, rfl, hg15, hg15l⟩ := own15.form (by omega)); try go_wp2_with fail)
              refine hKx.out _ _ ?_ (fun hHeld => ?_)
              · (try dsimp only); exact KK.out _ (below_then BV.out hb15)
              clear hKx Kx
              try simp only [Act.put, List.setIfInBounds_toArray, List.set_cons_zero, List.set_cons_succ]
              have p17 := A17.out.lt
              have ne17_15 := Lib.hid (show Z17 ≠ g15 by omega)
              clear p17
              have OW15 := Lib.hid (own_low own15 BV.out.size)
              replace OW10 := Lib.hid (own_thenI OW10.out hb15)
              replace A17 := Lib.hid (A17.out.then_ hb15)
              replace BV := Lib.hid (below_then BV.out hb15)
              clear own15 hb15 hg15 hg15l A14
              refine lex_take (i := 16) (v := ?_) rfl (by kernel_rfl) (by kernel_rfl) (by kernel_rfl) (fun _ _ _ h => h) (by rfl) ?_ (by assumption) ?_
              rotate_left
              · (intro w hSw; (try dsimp only at hSw); go_simp; try with_reducible rfl)
              try simp only [Act.put, List.setIfInBounds_toArray, List.set_cons_zero, List.set_cons_succ]
              have hv10 := HV10.out
              subst hv10
              exact hj Z17 g10 cap10 g15 cap15 v6 Z9 Z14 V6 ⟨A17.out, OW10.out, OW15.out, ne17_10.out, ne17_15.out, BV.out, hlt17⟩
            · go_simp
              refine hKx.out _ _ ?_ (fun hHeld => ?_)
              · (try dsimp only); exact KK.out _ (below_new BV.out _)
              clear hKx Kx
              try simp only [Act.put, List.setIfInBounds_toArray, List.set_cons_zero, List.set_cons_succ]
              have hlt14 := BV.out.size
              have p9 := A9.out.lt
              have p17 := A17.out.lt
              have p6 : ∀ g, Value.ownBlock v6 = some g → g < V3.heap.size := fun g e => (OW6.out.lt g e).2
              replace BV := Lib.hid (below_new BV.out (.cells #[.slice a2 n2 c2, .slice a3 n3 c3] 22))
              replace A9 := Lib.hid (A9.out.alloc (.cells #[.slice a2 n2 c2, .slice a3 n3 c3] 22))
              replace A17 := Lib.hid (A17.out.alloc (.cells #[.slice a2 n2 c2, .slice a3 n3 c3] 22))
              replace OW6 := Lib.hid (OW6.out.alloc (.cells #[.slice a2 n2 c2, .slice a3 n3 c3] 22))
              have A14 := Lib.hid (At.new V3 (.cells #[.slice a2 n2 c2, .slice a3 n3 c3] 22))
              obtain ⟨Z14, hZ14⟩ : ∃ Z, Z = V3.heap.size := ⟨_, rfl⟩
              rw [← hZ14] at A14 hlt14 p9 p17 p6 ⊢
              clear hZ14
              have r9_14 := Lib.hid p9
              have r17_14 := Lib.hid p17
              have r6_14 := Lib.hid p6
              clear p9 p17 p6
              generalize World.alloc V3 _ = V4 at BV hHeld A14 A9 A17 OW6 ⊢
              refine lex_step (i := 10) rfl (by kernel_rfl) (by rfl) (fun Kx hKx => ?_)
              have p17b := Lib.hid A17.out.lt
              (refine wp_append_lies V4 _ _ _ (by rfl) w2.heap.size 3 i0 (.int .i64 0) 1 8 Try.underlying22 hi hz0 hz1 hz2 rfl (by decide) v6 n1 (ms.map (Value.int .i64)) (by rfl) OW6.out ⟨Z9, 0, none⟩ 1 1 [.int .i64 (n3 : Int)] (by rfl) (by rfl) (World.news_of_block (cs := #[.int .i64 (n3 : Int)]) (t := 3) (fr := (0, 0)) A9.out) (by simp [Value.oneCell']) (by decide) (by unfold maxLen; omega) (by omega) BV.out.size _ rfl ?_; intro g10 cap10 V5 own10 hgrow hlies hglt)
              refine hKx.out _ _ ?_ (fun hHeld => ?_)
              · (try dsimp only); exact KK.out _ (BV.out.grown hgrow BV.out.size (fun b hb => (OW6.out.lt b hb).1))
              clear hKx Kx
              try simp only [Act.put, List.setIfInBounds_toArray, List.set_cons_zero, List.set_cons_succ]
              replace A14 := Lib.hid (show At V5 Z14 _ from (hgrow.block Z14 A14.out.lt (fun e => by have := r6_14.out Z14 e.symm; omega)).trans A14.out)
              replace A17 := Lib.hid (show At V5 Z17 _ from (hgrow.block Z17 A17.out.lt (fun e => by have := r17_6.out Z17 e.symm; omega)).trans A17.out)
              have ne17_10 := Lib.hid (show Z17 ≠ g10 from fun e => by
                have hl := p17b.out
                rcases hlies with h | h
                · have := r17_6.out g10 h; omega
                · omega)
              replace BV := Lib.hid (BV.out.grown hgrow BV.out.size (fun b hb => (OW6.out.lt b hb).1))
              obtain ⟨v10, hv10⟩ : ∃ v, v = Value.slice (some ⟨g10, 0, none⟩) (n1 + 1) cap10 := ⟨_, rfl⟩
              have HV10 := Lib.hid hv10
              rw [← hv10] at own10
              clear hv10
              have OW10 := Lib.hid own10
              clear own10 hgrow hlies hglt OW6 A9
              refine lex_step (i := 15) rfl (by kernel_rfl) (by rfl) (fun Kx hKx => ?_)
              (go_simp; go_at_call 22; refine (concat_ints V5 Z14 0 2 a2 a3 n2 c2 n3 c3 ss st A14.out.lt (A14.out.cell 0) (A14.out.cell 1) (ints_thenX HA2.out BV.out) (ints_thenX HA3.out BV.out) (by omega) (by omega) e2 e3).mono ?_; rintro e V6 ⟨v15, rfl, own15, hb15⟩; (obtain ⟨g15, cap15, rfl, hg15, hg15l⟩ := own15.form (by omega)); try go_wp2_with fail)
              refine hKx.out _ _ ?_ (fun hHeld => ?_)
              · (try dsimp only); exact KK.out _ (below_then BV.out hb15)
              clear hKx Kx
              try simp only [Act.put, List.setIfInBounds_toArray, List.set_cons_zero, List.set_cons_succ]
              have p17 := A17.out.lt
              have ne17_15 := Lib.hid (show Z17 ≠ g15 by omega)
              clear p17
              have OW15 := Lib.hid (own_low own15 BV.out.size)
              replace OW10 := Lib.hid (own_thenI OW10.out hb15)
              replace A17 := Lib.hid (A17.out.then_ hb15)
              replace BV := Lib.hid (below_then BV.out hb15)
              clear own15 hb15 hg15 hg15l A14
              refine lex_take (i := 16) (v := ?_) rfl (by kernel_rfl) (by kernel_rfl) (by kernel_rfl) (fun _ _ _ h => h) (by rfl) ?_ (by assumption) ?_
              rotate_left
              · (intro w hSw; (try dsimp only at hSw); go_simp; try with_reducible rfl)
              try simp only [Act.put, List.setIfInBounds_toArray, List.set_cons_zero, List.set_cons_succ]
              have hv10 := HV10.out
              subst hv10
              exact hj Z17 g10 cap10 g15 cap15 v6 Z9 Z14 V6 ⟨A17.out, OW10.out, OW15.out, ne17_10.out, ne17_15.out, BV.out, hlt17⟩
          · go_simp
            refine hKx.out _ _ ?_ (fun hHeld => ?_)
            · (try dsimp only); exact KK.out _ (below_new BV.out _)
            clear hKx Kx
            try simp only [Act.put, List.setIfInBounds_toArray, List.set_cons_zero, List.set_cons_succ]
            have hlt14 := BV.out.size
            have p9 := A9.out.lt
            have p17 := A17.out.lt
            replace BV := Lib.hid (below_new BV.out (.cells #[.slice a2 n2 c2, .slice a3 n3 c3] 22))
            replace A9 := Lib.hid (A9.out.alloc (.cells #[.slice a2 n2 c2, .slice a3 n3 c3] 22))
            replace A17 := Lib.hid (A17.out.alloc (.cells #[.slice a2 n2 c2, .slice a3 n3 c3] 22))
            have A14 := Lib.hid (At.new V2 (.cells #[.slice a2 n2 c2, .slice a3 n3 c3] 22))
            obtain ⟨Z14, hZ14⟩ : ∃ Z, Z = V2.heap.size := ⟨_, rfl⟩
            rw [← hZ14] at A14 hlt14 p9 p17 ⊢
            clear hZ14
            have r9_14 := Lib.hid p9
            have r17_14 := Lib.hid p17
            clear p9 p17
            generalize World.alloc V2 _ = V3 at BV hHeld A14 A9 A17 ⊢
            refine lex_step (i := 6) rfl (by kernel_rfl) (by rfl) (fun Kx hKx => ?_)
            (go_simp; go_at_call 21; refine (clone_ints V3 a1 n1 c1 ms (ints_thenX HA1.out BV.out) (by omega)).mono ?_; rintro e V4 ⟨v6, rfl, own6, hb6⟩; try go_wp2_with fail)
            refine hKx.out _ _ ?_ (fun hHeld => ?_)
            · (try dsimp only); exact KK.out _ (below_then BV.out hb6)
            clear hKx Kx
            try simp only [Act.put, List.setIfInBounds_toArray, List.set_cons_zero, List.set_cons_succ]
            have p9 := A9.out.lt
            have p14 := A14.out.lt
            have p17 := A17.out.lt
            have r9_6 := Lib.hid (show ∀ g, Value.ownBlock v6 = some g → Z9 < g from fun g e => by have := (own6.lt g e).1; omega)
            have r14_6 := Lib.hid (show ∀ g, Value.ownBlock v6 = some g → Z14 < g from fun g e => by have := (own6.lt g e).1; omega)
            have r17_6 := Lib.hid (show ∀ g, Value.ownBlock v6 = some g → Z17 < g from fun g e => by have := (own6.lt g e).1; omega)
            clear p9 p14 p17
            have OW6 := Lib.hid (own_low own6 BV.out.size)
            replace A9 := Lib.hid (A9.out.then_ hb6)
            replace A14 := Lib.hid (A14.out.then_ hb6)
            replace A17 := Lib.hid (A17.out.then_ hb6)
            replace BV := Lib.hid (below_then BV.out hb6)
            clear own6 hb6
            refine lex_step (i := 10) rfl (by kernel_rfl) (by rfl) (fun Kx hKx => ?_)
            have p17b := Lib.hid A17.out.lt
            (refine wp_append_lies V4 _ _ _ (by rfl) w2.heap.size 3 i0 (.int .i64 0) 1 8 Try.underlying22 hi hz0 hz1 hz2 rfl (by decide) v6 n1 (ms.map (Value.int .i64)) (by rfl) OW6.out ⟨Z9, 0, none⟩ 1 1 [.int .i64 (n3 : Int)] (by rfl) (by rfl) (World.news_of_block (cs := #[.int .i64 (n3 : Int)]) (t := 3) (fr := (0, 0)) A9.out) (by simp [Value.oneCell']) (by decide) (by unfold maxLen; omega) (by omega) BV.out.size _ rfl ?_; intro g10 cap10 V5 own10 hgrow hlies hglt)
            refine hKx.out _ _ ?_ (fun hHeld => ?_)
            · (try dsimp only); exact KK.out _ (BV.out.grown hgrow BV.out.size (fun b hb => (OW6.out.lt b hb).1))
            clear hKx Kx
            try simp only [Act.put, List.setIfInBounds_toArray, List.set_cons_zero, List.set_cons_succ]
            replace A14 := Lib.hid (show At V5 Z14 _ from (hgrow.block Z14 A14.out.lt (fun e => by have := r14_6.out Z14 e.symm; omega)).trans A14.out)
            replace A17 := Lib.hid (show At V5 Z17 _ from (hgrow.block Z17 A17.out.lt (fun e => by have := r17_6.out Z17 e.symm; omega)).trans A17.out)
            have ne17_10 := Lib.hid (show Z17 ≠ g10 from fun e => by
              have hl := p17b.out
              rcases hlies with h | h
              · have := r17_6.out g10 h; omega
              · omega)
            replace BV := Lib.hid (BV.out.grown hgrow BV.out.size (fun b hb => (OW6.out.lt b hb).1))
            obtain ⟨v10, hv10⟩ : ∃ v, v = Value.slice (some ⟨g10, 0, none⟩) (n1 + 1) cap10 := ⟨_, rfl⟩
            have HV10 := Lib.hid hv10
            rw [← hv10] at own10
            clear hv10
            have OW10 := Lib.hid own10
            clear own10 hgrow hlies hglt OW6 A9
            refine lex_step (i := 15) rfl (by kernel_rfl) (by rfl) (fun Kx hKx => ?_)
            (go_simp; go_at_call 22; refine (concat_ints V5 Z14 0 2 a2 a3 n2 c2 n3 c3 ss st A14.out.lt (A14.out.cell 0) (A14.out.cell 1) (ints_thenX HA2.out BV.out) (ints_thenX HA3.out BV.out) (by omega) (by omega) e2 e3).mono ?_; rintro e V6 ⟨v15, rfl, own15, hb15⟩; (obtain ⟨g15, cap15, rfl, hg15, hg15l⟩ := own15.form (by omega)); try go_wp2_with fail)
            refine hKx.out _ _ ?_ (fun hHeld => ?_)
            · (try dsimp only); exact KK.out _ (below_then BV.out hb15)
            clear hKx Kx
            try simp only [Act.put, List.setIfInBounds_toArray, List.set_cons_zero, List.set_cons_succ]
            have p17 := A17.out.lt
            have ne17_15 := Lib.hid (show Z17 ≠ g15 by omega)
            clear p17
            have OW15 := Lib.hid (own_low own15 BV.out.size)
            replace OW10 := Lib.hid (own_thenI OW10.out hb15)
            replace A17 := Lib.hid (A17.out.then_ hb15)
            replace BV := Lib.hid (below_then BV.out hb15)
            clear own15 hb15 hg15 hg15l A14
            refine lex_take (i := 16) (v := ?_) rfl (by kernel_rfl) (by kernel_rfl) (by kernel_rfl) (fun _ _ _ h => h) (by rfl) ?_ (by assumption) ?_
            rotate_left
            · (intro w hSw; (try dsimp only at hSw); go_simp; try with_reducible rfl)
            try simp only [Act.put, List.setIfInBounds_toArray, List.set_cons_zero, List.set_cons_succ]
            have hv10 := HV10.out
            subst hv10
            exact hj Z17 g10 cap10 g15 cap15 v6 Z9 Z14 V6 ⟨A17.out, OW10.out, OW15.out, ne17_10.out, ne17_15.out, BV.out, hlt17⟩
      · as_aux_lemma =>
        go_simp
        refine hKx.out _ _ ?_ (fun hHeld => ?_)
        · (try dsimp only); exact KK.out _ (below_new BV.out _)
        clear hKx Kx
        try simp only [Act.put, List.setIfInBounds_toArray, List.set_cons_zero, List.set_cons_succ]
        have hlt14 := BV.out.size
        replace BV := Lib.hid (below_new BV.out (.cells #[.slice a2 n2 c2, .slice a3 n3 c3] 22))
        have A14 := Lib.hid (At.new V0 (.cells #[.slice a2 n2 c2, .slice a3 n3 c3] 22))
        obtain ⟨Z14, hZ14⟩ : ∃ Z, Z = V0.heap.size := ⟨_, rfl⟩
        rw [← hZ14] at A14 hlt14 ⊢
        clear hZ14
        generalize World.alloc V0 _ = V1 at BV hHeld A14 ⊢
        refine lex_step3 (i := 6) (j := 9) (k := 17) rfl rfl rfl (by kernel_rfl) (by rfl) (by rfl) (by rfl) (fun Kx hKx => ?_) (fun Kx hKx => ?_) (fun Kx hKx => ?_)
        · as_aux_lemma =>
          (go_simp; go_at_call 21; refine (clone_ints V1 a1 n1 c1 ms (ints_thenX HA1.out BV.out) (by omega)).mono ?_; rintro e V2 ⟨v6, rfl, own6, hb6⟩; try go_wp2_with fail)
          refine hKx.out _ _ ?_ (fun hHeld => ?_)
          · (try dsimp only); exact KK.out _ (below_then BV.out hb6)
          clear hKx Kx
          try simp only [Act.put, List.setIfInBounds_toArray, List.set_cons_zero, List.set_cons_succ]
          have p14 := A14.out.lt
          have r14_6 := Lib.hid (show ∀ g, Value.ownBlock v6 = some g → Z14 < g from fun g e => by have := (own6.lt g e).1; omega)
          clear p14
          have OW6 := Lib.hid (own_low own6 BV.out.size)
          replace A14 := Lib.hid (A14.out.then_ hb6)
          replace BV := Lib.hid (below_then BV.out hb6)
          clear own6 hb6
          refine lex_step2 (i := 9) (j := 17) rfl rfl (by kernel_rfl) (by rfl) (by rfl) (fun Kx hKx => ?_) (fun Kx hKx => ?_)
          · go_simp
            refine hKx.out _ _ ?_ (fun hHeld => ?_)
            · (try dsimp only); exact KK.out _ (below_new BV.out _)
            clear hKx Kx
            try simp only [Act.put, List.setIfInBounds_toArray, List.set_cons_zero, List.set_cons_succ]
            have hlt9 := BV.out.size
            have p14 := A14.out.lt
            have p6 : ∀ g, Value.ownBlock v6 = some g → g < V2.heap.size := fun g e => (OW6.out.lt g e).2
            replace BV := Lib.hid (below_new BV.out (.cells #[.int .i64 (n3 : Int)] 3))
            replace A14 := Lib.hid (A14.out.alloc (.cells #[.int .i64 (n3 : Int)] 3))
            replace OW6 := Lib.hid (OW6.out.alloc (.cells #[.int .i64 (n3 : Int)] 3))
            have A9 := Lib.hid (At.new V2 (.cells #[.int .i64 (n3 : Int)] 3))
            obtain ⟨Z9, hZ9⟩ : ∃ Z, Z = V2.heap.size := ⟨_, rfl⟩
            rw [← hZ9] at A9 hlt9 p14 p6 ⊢
            clear hZ9
            have r14_9 := Lib.hid p14
            have r6_9 := Lib.hid p6
            clear p14 p6
            generalize World.alloc V2 _ = V3 at BV hHeld A9 A14 OW6 ⊢
            refine lex_step2 (i := 10) (j := 17) rfl rfl (by kernel_rfl) (by rfl) (by rfl) (fun Kx hKx => ?_) (fun Kx hKx => ?_)
            · (refine wp_append_lies V3 _ _ _ (by rfl) w2.heap.size 3 i0 (.int .i64 0) 1 8 Try.underlying22 hi hz0 hz1 hz2 rfl (by decide) v6 n1 (ms.map (Value.int .i64)) (by rfl) OW6.out ⟨Z9, 0, none⟩ 1 1 [.int .i64 (n3 : Int)] (by rfl) (by rfl) (World.news_of_block (cs := #[.int .i64 (n3 : Int)]) (t := 3) (fr := (0, 0)) A9.out) (by simp [Value.oneCell']) (by decide) (by unfold maxLen; omega) (by omega) BV.out.size _ rfl ?_; intro g10 cap10 V4 own10 hgrow hlies hglt)
              refine hKx.out _ _ ?_ (fun hHeld => ?_)
              · (try dsimp only); exact KK.out _ (BV.out.grown hgrow BV.out.size (fun b hb => (OW6.out.lt b hb).1))
              clear hKx Kx
              try simp only [Act.put, List.setIfInBounds_toArray, List.set_cons_zero, List.set_cons_succ]
              replace A14 := Lib.hid (show At V4 Z14 _ from (hgrow.block Z14 A14.out.lt (fun e => by have := r14_6.out Z14 e.symm; omega)).trans A14.out)
              replace BV := Lib.hid (BV.out.grown hgrow BV.out.size (fun b hb => (OW6.out.lt b hb).1))
              obtain ⟨v10, hv10⟩ : ∃ v, v = Value.slice (some ⟨g10, 0, none⟩) (n1 + 1) cap10 := ⟨_, rfl⟩
              have HV10 := Lib.hid hv10
              rw [← hv10] at own10
              clear hv10
              have OW10 := Lib.hid own10
              clear own10 hgrow hlies hglt OW6 A9
              refine lex_step2 (i := 15) (j := 17) rfl rfl (by kernel_rfl) (by rfl) (by rfl) (fun Kx hKx => ?_) (fun Kx hKx => ?_)
              · (go_simp; go_at_call 22; refine (concat_ints V4 Z14 0 2 a2 a3 n2 c2 n3 c3 ss st A14.out.lt (A14.out.cell 0) (A14.out.cell 1) (ints_thenX HA2.out BV.out) (ints_thenX HA3.out BV.out) (by omega) (by omega) e2 e3).mono ?_; rintro e V5 ⟨v15, rfl, own15, hb15⟩; (obtain ⟨g15, cap15, rfl, hg15, hg15l⟩ := own15.form (by omega)); try go_wp2_with fail)
                refine hKx.out _ _ ?_ (fun hHeld => ?_)
                · (try dsimp only); exact KK.out _ (below_then BV.out hb15)
                clear hKx Kx
                try simp only [Act.put, List.setIfInBounds_toArray, List.set_cons_zero, List.set_cons_succ]
                have OW15 := Lib.hid (own_low own15 BV.out.size)
                replace OW10 := Lib.hid (own_thenI OW10.out hb15)
                replace BV := Lib.hid (below_then BV.out hb15)
                clear own15 hb15 hg15 hg15l A14
                refine lex_take (i := 16) (v := ?_) rfl (by kernel_rfl) (by kernel_rfl) (by kernel_rfl) (fun _ _ _ h => h) (by rfl) ?_ (by assumption) ?_
                rotate_left
                · (intro w hSw; (try dsimp only at hSw); go_simp; try with_reducible rfl)
                try simp only [Act.put, List.setIfInBounds_toArray, List.set_cons_zero, List.set_cons_succ]
                refine lex_step (i := 17) rfl (by kernel_rfl) (by rfl) (fun Kx hKx => ?_)
                go_simp
                refine hKx.out _ _ ?_ (fun hHeld => ?_)
                · (try dsimp only); exact KK.out _ (below_new BV.out _)
                clear hKx Kx
                try simp only [Act.put, List.setIfInBounds_toArray, List.set_cons_zero, List.set_cons_succ]
                have hlt17 := BV.out.size
                have p10 : ∀ g, Value.ownBlock v10 = some g → g < V5.heap.size := fun g e => (OW10.out.lt g e).2
                have p15 : ∀ g, Value.ownBlock (.slice (some ⟨g15, 0, none⟩) (n2 + n3) cap15) = some g → g < V5.heap.size := fun g e => (OW15.out.lt g e).2
                replace BV := Lib.hid (below_new BV.out (tabO ⟨#[]⟩ 0 none 0 0 none 0 0))
                replace OW10 := Lib.hid (OW10.out.alloc (tabO ⟨#[]⟩ 0 none 0 0 none 0 0))
                replace OW15 := Lib.hid (OW15.out.alloc (tabO ⟨#[]⟩ 0 none 0 0 none 0 0))
                have A17 := Lib.hid (At.new V5 (tabO ⟨#[]⟩ 0 none 0 0 none 0 0))
                obtain ⟨Z17, hZ17⟩ : ∃ Z, Z = V5.heap.size := ⟨_, rfl⟩
                rw [← hZ17] at A17 hlt17 p10 p15 ⊢
                clear hZ17
                have r10_17 := Lib.hid p10
                have r15_17 := Lib.hid p15
                clear p10 p15
                generalize World.alloc V5 _ = V6 at BV hHeld A17 OW10 OW15 ⊢
                have ne17_10 := Lib.hid (show Z17 ≠ g10 from fun e => by have := r10_17.out g10 (by rw [HV10.out]; rfl); omega)
                have ne17_15 := Lib.hid (show Z17 ≠ g15 from fun e => by have := r15_17.out g15 rfl; omega)
                have hv10 := HV10.out
                subst hv10
                exact hj Z17 g10 cap10 g15 cap15 v6 Z9 Z14 V6 ⟨A17.out, OW10.out, OW15.out, ne17_10.out, ne17_15.out, BV.out, hlt17⟩
              · go_simp
                refine hKx.out _ _ ?_ (fun hHeld => ?_)
                · (try dsimp only); exact KK.out _ (below_new BV.out _)
                clear hKx Kx
                try simp only [Act.put, List.setIfInBounds_toArray, List.set_cons_zero, List.set_cons_succ]
                have hlt17 := BV.out.size
                have p14 := A14.out.lt
                have p10 : ∀ g, Value.ownBlock v10 = some g → g < V4.heap.size := fun g e => (OW10.out.lt g e).2
                replace BV := Lib.hid (below_new BV.out (tabO ⟨#[]⟩ 0 none 0 0 none 0 0))
                replace A14 := Lib.hid (A14.out.alloc (tabO ⟨#[]⟩ 0 none 0 0 none 0 0))
                replace OW10 := Lib.hid (OW10.out.alloc (tabO ⟨#[]⟩ 0 none 0 0 none 0 0))
                have A17 := Lib.hid (At.new V4 (tabO ⟨#[]⟩ 0 none 0 0 none 0 0))
                obtain ⟨Z17, hZ17⟩ : ∃ Z, Z = V4.heap.size := ⟨_, rfl⟩
                rw [← hZ17] at A17 hlt17 p14 p10 ⊢
                clear hZ17
                have r14_17 := Lib.hid p14
                have r10_17 := Lib.hid p10
                clear p14 p10
                generalize World.alloc V4 _ = V5 at BV hHeld A17 A14 OW10 ⊢
                refine lex_step (i := 15) rfl (by kernel_rfl) (by rfl) (fun Kx hKx => ?_)
                (go_simp; go_at_call 22; refine (concat_ints V5 Z14 0 2 a2 a3 n2 c2 n3 c3 ss st A14.out.lt (A14.out.cell 0) (A14.out.cell 1) (ints_thenX HA2.out BV.out) (ints_thenX HA3.out BV.out) (by omega) (by omega) e2 e3).mono ?_; rintro e V6 ⟨v15, rfl, own15, hb15⟩; (obtain ⟨g15, cap15, rfl, hg15, hg15l⟩ := own15.form (by omega)); try go_wp2_with fail)
                refine hKx.out _ _ ?_ (fun hHeld => ?_)
                · (try dsimp only); exact KK.out _ (below_then BV.out hb15)
                clear hKx Kx
                try simp only [Act.put, List.setIfInBounds_toArray, List.set_cons_zero, List.set_cons_succ]
                have p17 := A17.out.lt
                have ne17_15 := Lib.hid (show Z17 ≠ g15 by omega)
                clear p17
                have OW15 := Lib.hid (own_low own15 BV.out.size)
                replace OW10 := Lib.hid (own_thenI OW10.out hb15)
                replace A17 := Lib.hid (A17.out.then_ hb15)
                replace BV := Lib.hid (below_then BV.out hb15)
                clear own15 hb15 hg15 hg15l A14
                refine lex_take (i := 16) (v := ?_) rfl (by kernel_rfl) (by kernel_rfl) (by kernel_rfl) (fun _ _ _ h => h) (by rfl) ?_ (by assumption) ?_
                rotate_left
                · (intro w hSw; (try dsimp only at hSw); go_simp; try with_reducible rfl)
                try simp only [Act.put, List.setIfInBounds_toArray, List.set_cons_zero, List.set_cons_succ]
                have ne17_10 := Lib.hid (show Z17 ≠ g10 from fun e => by have := r10_17.out g10 (by rw [HV10.out]; rfl); omega)
                have hv10 := HV10.out
                subst hv10
                exact hj Z17 g10 cap10 g15 cap15 v6 Z9 Z14 V6 ⟨A17.out, OW10.out, OW15.out, ne17_10.out, ne17_15.out, BV.out, hlt17⟩
            · go_simp
              refine hKx.out _ _ ?_ (fun hHeld => ?_)
              · (try dsimp only); exact KK.out _ (below_new BV.out _)
              clear hKx Kx
              try simp only [Act.put, List.setIfInBounds_toArray, List.set_cons_zero, List.set_cons_succ]
              have hlt17 := BV.out.size
              have p9 := A9.out.lt
              have p14 := A14.out.lt
              have p6 : ∀ g, Value.ownBlock v6 = some g → g < V3.heap.size := fun g e => (OW6.out.lt g e).2
              replace BV := Lib.hid (below_new BV.out (tabO ⟨#[]⟩ 0 none 0 0 none 0 0))
              replace A9 := Lib.hid (A9.out.alloc (tabO ⟨#[]⟩ 0 none 0 0 none 0 0))
              replace A14 := Lib.hid (A14.out.alloc (tabO ⟨#[]⟩ 0 none 0 0 none 0 0))
              replace OW6 := Lib.hid (OW6.out.alloc (tabO ⟨#[]⟩ 0 none 0 0 none 0 0))
              have A17 := Lib.hid (At.new V3 (tabO ⟨#[]⟩ 0 none 0 0 none 0 0))
              obtain ⟨Z17, hZ17⟩ : ∃ Z, Z = V3.heap.size := ⟨_, rfl⟩
              rw [← hZ17] at A17 hlt17 p9 p14 p6 ⊢
              clear hZ17
              have r9_17 := Lib.hid p9
              have r14_17 := Lib.hid p14
              have r6_17 := Lib.hid p6
              clear p9 p14 p6
              generalize World.alloc V3 _ = V4 at BV hHeld A17 A9 A14 OW6 ⊢
              refine lex_step (i := 10) rfl (by kernel_rfl) (by rfl) (fun Kx hKx => ?_)
              have p17b := Lib.hid A17.out.lt
              (refine wp_append_lies V4 _ _ _ (by rfl) w2.heap.size 3 i0 (.int .i64 0) 1 8 Try.underlying22 hi hz0 hz1 hz2 rfl (by decide) v6 n1 (ms.map (Value.int .i64)) (by rfl) OW6.out ⟨Z9, 0, none⟩ 1 1 [.int .i64 (n3 : Int)] (by rfl) (by rfl) (World.news_of_block (cs := #[.int .i64 (n3 : Int)]) (t := 3) (fr := (0, 0)) A9.out) (by simp [Value.oneCell']) (by decide) (by unfold maxLen; omega) (by omega) BV.out.size _ rfl ?_; intro g10 cap10 V5 own10 hgrow hlies hglt)
              refine hKx.out _ _ ?_ (fun hHeld => ?_)
              · (try dsimp only); exact KK.out _ (BV.out.grown hgrow BV.out.size (fun b hb => (OW6.out.lt b hb).1))
              clear hKx Kx
              try simp only [Act.put, List.setIfInBounds_toArray, List.set_cons_zero, List.set_cons_succ]
              replace A14 := Lib.hid (show At V5 Z14 _ from (hgrow.block Z14 A14.out.lt (fun e => by have := r14_6.out Z14 e.symm; omega)).trans A14.out)
              replace A17 := Lib.hid (show At V5 Z17 _ from (hgrow.block Z17 A17.out.lt (fun e => by have := r6_17.out Z17 e.symm; omega)).trans A17.out)
              have ne17_10 := Lib.hid (show Z17 ≠ g10 from fun e => by
                have hl := p17b.out
                rcases hlies with h | h
                · have := r6_17.out g10 h; omega
                · omega)
              replace BV := Lib.hid (BV.out.grown hgrow BV.out.size (fun b hb => (OW6.out.lt b hb).1))
              obtain ⟨v10, hv10⟩ : ∃ v, v = Value.slice (some ⟨g10, 0, none⟩) (n1 + 1) cap10 := ⟨_, rfl⟩
              have HV10 := Lib.hid hv10
              rw [← hv10] at own10
              clear hv10
              have OW10 := Lib.hid own10
              clear own10 hgrow hlies hglt OW6 A9
              refine lex_step (i := 15) rfl (by kernel_rfl) (by rfl) (fun Kx hKx => ?_)
              (go_simp; go_at_call 22; refine (concat_ints V5 Z14 0 2 a2 a3 n2 c2 n3 c3 ss st A14.out.lt (A14.out.cell 0) (A14.out.cell 1) (ints_thenX HA2.out BV.out) (ints_thenX HA3.out BV.out) (by omega) (by omega) e2 e3).mono ?_; rintro e V6 ⟨v15, rfl, own15, hb15⟩; (obtain ⟨g15, cap15, rfl, hg15, hg15l⟩ := own15.form (by omega)); try go_wp2_with fail)
              refine hKx.out _ _ ?_ (fun hHeld => ?_)
              · (try dsimp only); exact KK.out _ (below_then BV.out hb15)
              clear hKx Kx
              try simp only [Act.put, List.setIfInBounds_toArray, List.set_cons_zero, List.set_cons_succ]
              have p17 := A17.out.lt
              have ne17_15 := Lib.hid (show Z17 ≠ g15 by omega)
              clear p17
              have OW15 := Lib.hid (own_low own15 BV.out.size)
              replace OW10 := Lib.hid (own_thenI OW10.out hb15)
              replace A17 := Lib.hid (A17.out.then_ hb15)
              replace BV := Lib.hid (below_then BV.out hb15)
              clear own15 hb15 hg15 hg15l A14
              refine lex_take (i := 16) (v := ?_) rfl (by kernel_rfl) (by kernel_rfl) (by kernel_rfl) (fun _ _ _ h => h) (by rfl) ?_ (by assumption) ?_
              rotate_left
              · (intro w hSw; (try dsimp only at hSw); go_simp; try with_reducible rfl)
              try simp only [Act.put, List.setIfInBounds_toArray, List.set_cons_zero, List.set_cons_succ]
              have hv10 := HV10.out
              subst hv10
              exact hj Z17 g10 cap10 g15 cap15 v6 Z9 Z14 V6 ⟨A17.out, OW10.out, OW15.out, ne17_10.out, ne17_15.out, BV.out, hlt17⟩
          · go_simp
            refine hKx.out _ _ ?_ (fun hHeld => ?_)
            · (try dsimp only); exact KK.out _ (below_new BV.out _)
            clear hKx Kx
            try simp only [Act.put, List.setIfInBounds_toArray, List.set_cons_zero, List.set_cons_succ]
            have hlt17 := BV.out.size
            have p14 := A14.out.lt
            have p6 : ∀ g, Value.ownBlock v6 = some g → g < V2.heap.size := fun g e => (OW6.out.lt g e).2
            replace BV := Lib.hid (below_new BV.out (tabO ⟨#[]⟩ 0 none 0 0 none 0 0))
            replace A14 := Lib.hid (A14.out.alloc (tabO ⟨#[]⟩ 0 none 0 0 none 0 0))
            replace OW6 := Lib.hid (OW6.out.alloc (tabO ⟨#[]⟩ 0 none 0 0 none 0 0))
            have A17 := Lib.hid (At.new V2 (tabO ⟨#[]⟩ 0 none 0 0 none 0 0))
            obtain ⟨Z17, hZ17⟩ : ∃ Z, Z = V2.heap.size := ⟨_, rfl⟩
            rw [← hZ17] at A17 hlt17 p14 p6 ⊢
            clear hZ17
            have r14_17 := Lib.hid p14
            have r6_17 := Lib.hid p6
            clear p14 p6
            generalize World.alloc V2 _ = V3 at BV hHeld A17 A14 OW6 ⊢
            refine lex_step (i := 9) rfl (by kernel_rfl) (by rfl) (fun Kx hKx => ?_)
            go_simp
            refine hKx.out _ _ ?_ (fun hHeld => ?_)
            · (try dsimp only); exact KK.out _ (below_new BV.out _)
            clear hKx Kx
            try simp only [Act.put, List.setIfInBounds_toArray, List.set_cons_zero, List.set_cons_succ]
            have hlt9 := BV.out.size
            have p14 := A14.out.lt
            have p17 := A17.out.lt
            have p6 : ∀ g, Value.ownBlock v6 = some g → g < V3.heap.size := fun g e => (OW6.out.lt g e).2
            replace BV := Lib.hid (below_new BV.out (.cells #[.int .i64 (n3 : Int)] 3))
            replace A14 := Lib.hid (A14.out.alloc (.cells #[.int .i64 (n3 : Int)] 3))
            replace A17 := Lib.hid (A17.out.alloc (.cells #[.int .i64 (n3 : Int)] 3))
            replace OW6 := Lib.hid (OW6.out.alloc (.cells #[.int .i64 (n3 : Int)] 3))
            have A9 := Lib.hid (At.new V3 (.cells #[.int .i64 (n3 : Int)] 3))
            obtain ⟨Z9, hZ9⟩ : ∃ Z, Z = V3.heap.size := ⟨_, rfl⟩
            rw [← hZ9] at A9 hlt9 p14 p17 p6 ⊢
            clear hZ9
            have r14_9 := Lib.hid p14
            have r17_9 := Lib.hid p17
            have r6_9 := Lib.hid p6
            clear p14 p17 p6
            generalize World.alloc V3 _ = V4 at BV hHeld A9 A14 A17 OW6 ⊢
            refine lex_step (i := 10) rfl (by kernel_rfl) (by rfl) (fun Kx hKx => ?_)
            have p17b := Lib.hid A17.out.lt
            (refine wp_append_lies V4 _ _ _ (by rfl) w2.heap.size 3 i0 (.int .i64 0) 1 8 Try.underlying22 hi hz0 hz1 hz2 rfl (by decide) v6 n1 (ms.map (Value.int .i64)) (by rfl) OW6.out ⟨Z9, 0, none⟩ 1 1 [.int .i64 (n3 : Int)] (by rfl) (by rfl) (World.news_of_block (cs := #[.int .i64 (n3 : Int)]) (t := 3) (fr := (0, 0)) A9.out) (by simp [Value.oneCell']) (by decide) (by unfold maxLen; omega) (by omega) BV.out.size _ rfl ?_; intro g10 cap10 V5 own10 hgrow hlies hglt)
            refine hKx.out _ _ ?_ (fun hHeld => ?_)
            · (try dsimp only); exact KK.out _ (BV.out.grown hgrow BV.out.size (fun b hb => (OW6.out.lt b hb).1))
            clear hKx Kx
            try simp only [Act.put, List.setIfInBounds_toArray, List.set_cons_zero, List.set_cons_succ]
            replace A14 := Lib.hid (show At V5 Z14 _ from (hgrow.block Z14 A14.out.lt (fun e => by have := r14_6.out Z14 e.symm; omega)).trans A14.out)
            replace A17 := Lib.hid (show At V5 Z17 _ from (hgrow.block Z17 A17.out.lt (fun e => by have := r6_17.out Z17 e.symm; omega)).trans A17.out)
            have ne17_10 := Lib.hid (show Z17 ≠ g10 from fun e => by
              have hl := p17b.out
              rcases hlies with h | h
              · have := r6_17.out g10 h; omega
              · omega)
            replace BV := Lib.hid (BV.out.grown hgrow BV.out.size (fun b hb => (OW6.out.lt b hb).1))
            obtain ⟨v10, hv10⟩ : ∃ v, v = Value.slice (some ⟨g10, 0, none⟩) (n1 + 1) cap10 := ⟨_, rfl⟩
            have HV10 := Lib.hid hv10
            rw [← hv10] at own10
            clear hv10
            have OW10 := Lib.hid own10
            clear own10 hgrow hlies hglt OW6 A9
            refine lex_step (i := 15) rfl (by kernel_rfl) (by rfl) (fun Kx hKx => ?_)
            (go_simp; go_at_call 22; refine (concat_ints V5 Z14 0 2 a2 a3 n2 c2 n3 c3 ss st A14.out.lt (A14.out.cell 0) (A14.out.cell 1) (ints_thenX HA2.out BV.out) (ints_thenX HA3.out BV.out) (by omega) (by omega) e2 e3).mono ?_; rintro e V6 ⟨v15, rfl, own15, hb15⟩; (obtain ⟨g15, cap15, rfl, hg15, hg15l⟩ := own15.form (by omega)); try go_wp2_with fail)
            refine hKx.out _ _ ?_ (fun hHeld => ?_)
            · (try dsimp only); exact KK.out _ (below_then BV.out hb15)
            clear hKx Kx
            try simp only [Act.put, List.setIfInBounds_toArray, List.set_cons_zero, List.set_cons_succ]
            have p17 := A17.out.lt
            have ne17_15 := Lib.hid (show Z17 ≠ g15 by omega)
            clear p17
            have OW15 := Lib.hid (own_low own15 BV.out.size)
            replace OW10 := Lib.hid (own_thenI OW10.out hb15)
            replace A17 := Lib.hid (A17.out.then_ hb15)
            replace BV := Lib.hid (below_then BV.out hb15)
            clear own15 hb15 hg15 hg15l A14
            refine lex_take (i := 16) (v := ?_) rfl (by kernel_rfl) (by kernel_rfl) (by kernel_rfl) (fun _ _ _ h => h) (by rfl) ?_ (by assumption) ?_
            rotate_left
            · (intro w hSw; (try dsimp only at hSw); go_simp; try with_reducible rfl)
            try simp only [Act.put, List.setIfInBounds_toArray, List.set_cons_zero, List.set_cons_succ]
            have hv10 := HV10.out
            subst hv10
            exact hj Z17 g10 cap10 g15 cap15 v6 Z9 Z14 V6 ⟨A17.out, OW10.out, OW15.out, ne17_10.out, ne17_15.out, BV.out, hlt17⟩
        · as_aux_lemma =>
          go_simp
          refine hKx.out _ _ ?_ (fun hHeld => ?_)
          · (try dsimp only); exact KK.out _ (below_new BV.out _)
          clear hKx Kx
          try simp only [Act.put, List.setIfInBounds_toArray, List.set_cons_zero, List.set_cons_succ]
          have hlt9 := BV.out.size
          have p14 := A14.out.lt
          replace BV := Lib.hid (below_new BV.out (.cells #[.int .i64 (n3 : Int)] 3))
          replace A14 := Lib.hid (A14.out.alloc (.cells #[.int .i64 (n3 : Int)] 3))
          have A9 := Lib.hid (At.new V1 (.cells #[.int .i64 (n3 : Int)] 3))
          obtain ⟨Z9, hZ9⟩ : ∃ Z, Z = V1.heap.size := ⟨_, rfl⟩
          rw [← hZ9] at A9 hlt9 p14 ⊢
          clear hZ9
          have r14_9 := Lib.hid p14
          clear p14
          generalize World.alloc V1 _ = V2 at BV hHeld A9 A14 ⊢
          refine lex_step2 (i := 6) (j := 17) rfl rfl (by kernel_rfl) (by rfl) (by rfl) (fun Kx hKx => ?_) (fun Kx hKx => ?_)
          · (go_simp; go_at_call 21; refine (clone_ints V2 a1 n1 c1 ms (ints_thenX HA1.out BV.out) (by omega)).mono ?_; rintro e V3 ⟨v6, rfl, own6, hb6⟩; try go_wp2_with fail)
            refine hKx.out _ _ ?_ (fun hHeld => ?_)
            · (try dsimp only); exact KK.out _ (below_then BV.out hb6)
            clear hKx Kx
            try simp only [Act.put, List.setIfInBounds_toArray, List.set_cons_zero, List.set_cons_succ]
            have p9 := A9.out.lt
            have p14 := A14.out.lt
            have r9_6 := Lib.hid (show ∀ g, Value.ownBlock v6 = some g → Z9 < g from fun g e => by have := (own6.lt g e).1; omega)
            have r14_6 := Lib.hid (show ∀ g, Value.ownBlock v6 = some g → Z14 < g from fun g e => by have := (own6.lt g e).1; omega)
            clear p9 p14
            have OW6 := Lib.hid (own_low own6 BV.out.size)
            replace A9 := Lib.hid (A9.out.then_ hb6)
            replace A14 := Lib.hid (A14.out.then_ hb6)
            replace BV := Lib.hid (below_then BV.out hb6)
            clear own6 hb6
            refine lex_step2 (i := 10) (j := 17) rfl rfl (by kernel_rfl) (by rfl) (by rfl) (fun Kx hKx => ?_) (fun Kx hKx => ?_)
            · (refine wp_append_lies V3 _ _ _ (by rfl) w2.heap.size 3 i0 (.int .i64 0) 1 8 Try.underlying22 hi hz0 hz1 hz2 rfl (by decide) v6 n1 (ms.map (Value.int .i64)) (by rfl) OW6.out ⟨Z9, 0, none⟩ 1 1 [.int .i64 (n3 : Int)] (by rfl) (by rfl) (World.news_of_block (cs := #[.int .i64 (n3 : Int)]) (t := 3) (fr := (0, 0)) A9.out) (by simp [Value.oneCell']) (by decide) (by unfold maxLen; omega) (by omega) BV.out.size _ rfl ?_; intro g10 cap10 V4 own10 hgrow hlies hglt)
              refine hKx.out _ _ ?_ (fun hHeld => ?_)
              · (try dsimp only); exact KK.out _ (BV.out.grown hgrow BV.out.size (fun b hb => (OW6.out.lt b hb).1))
              clear hKx Kx
              try simp only [Act.put, List.setIfInBounds_toArray, List.set_cons_zero, List.set_cons_succ]
              replace A14 := Lib.hid (show At V4 Z14 _ from (hgrow.block Z14 A14.out.lt (fun e => by have := r14_6.out Z14 e.symm; omega)).trans A14.out)
              replace BV := Lib.hid (BV.out.grown hgrow BV.out.size (fun b hb => (OW6.out.lt b hb).1))
              obtain ⟨v10, hv10⟩ : ∃ v, v = Value.slice (some ⟨g10, 0, none⟩) (n1 + 1) cap10 := ⟨_, rfl⟩
              have HV10 := Lib.hid hv10
              rw [← hv10] at own10
              clear hv10
              have OW10 := Lib.hid own10
              clear own10 hgrow hlies hglt OW6 A9
              refine lex_step2 (i := 15) (j := 17) rfl rfl (by kernel_rfl) (by rfl) (by rfl) (fun Kx hKx => ?_) (fun Kx hKx => ?_)
              · (go_simp; go_at_call 22; refine (concat_ints V4 Z14 0 2 a2 a3 n2 c2 n3 c3 ss st A14.out.lt (A14.out.cell 0) (A14.out.cell 1) (ints_thenX HA2.out BV.out) (ints_thenX HA3.out BV.out) (by omega) (by omega) e2 e3).mono ?_; rintro e V5 ⟨v15, rfl, own15, hb15⟩; (obtain ⟨g15, cap15, rfl, hg15, hg15l⟩ := own15.form (by omega)); try go_wp2_with fail)
                refine hKx.out _ _ ?_ (fun hHeld => ?_)
                · (try dsimp only); exact KK.out _ (below_then BV.out hb15)
                clear hKx Kx
                try simp only [Act.put, List.setIfInBounds_toArray, List.set_cons_zero, List.set_cons_succ]
                have OW15 := Lib.hid (own_low own15 BV.out.size)
                replace OW10 := Lib.hid (own_thenI OW10.out hb15)
                replace BV := Lib.hid (below_then BV.out hb15)
                clear own15 hb15 hg15 hg15l A14
                refine lex_take (i := 16) (v := ?_) rfl (by kernel_rfl) (by kernel_rfl) (by kernel_rfl) (fun _ _ _ h => h) (by rfl) ?_ (by assumption) ?_
                rotate_left
                · (intro w hSw; (try dsimp only at hSw); go_simp; try with_reducible rfl)
                try simp only [Act.put, List.setIfInBounds_toArray, List.set_cons_zero, List.set_cons_succ]
                refine lex_step (i := 17) rfl (by kernel_rfl) (by rfl) (fun Kx hKx => ?_)
                go_simp
                refine hKx.out _ _ ?_ (fun hHeld => ?_)
                · (try dsimp only); exact KK.out _ (below_new BV.out _)
                clear hKx Kx
                try simp only [Act.put, List.setIfInBounds_toArray, List.set_cons_zero, List.set_cons_succ]
                have hlt17 := BV.out.size
                have p10 : ∀ g, Value.ownBlock v10 = some g → g < V5.heap.size := fun g e => (OW10.out.lt g e).2
                have p15 : ∀ g, Value.ownBlock (.slice (some ⟨g15, 0, none⟩) (n2 + n3) cap15) = some g → g < V5.heap.size := fun g e => (OW15.out.lt g e).2
                replace BV := Lib.hid (below_new BV.out (tabO ⟨#[]⟩ 0 none 0 0 none 0 0))
                replace OW10 := Lib.hid (OW10.out.alloc (tabO ⟨#[]⟩ 0 none 0 0 none 0 0))
                replace OW15 := Lib.hid (OW15.out.alloc (tabO ⟨#[]⟩ 0 none 0 0 none 0 0))
                have A17 := Lib.hid (At.new V5 (tabO ⟨#[]⟩ 0 none 0 0 none 0 0))
                obtain ⟨Z17, hZ17⟩ : ∃ Z, Z = V5.heap.size := ⟨_, rfl⟩
                rw [← hZ17] at A17 hlt17 p10 p15 ⊢
                clear hZ17
                have r10_17 := Lib.hid p10
                have r15_17 := Lib.hid p15
                clear p10 p15
                generalize World.alloc V5 _ = V6 at BV hHeld A17 OW10 OW15 ⊢
                have ne17_10 := Lib.hid (show Z17 ≠ g10 from fun e => by have := r10_17.out g10 (by rw [HV10.out]; rfl); omega)
                have ne17_15 := Lib.hid (show Z17 ≠ g15 from fun e => by have := r15_17.out g15 rfl; omega)
                have hv10 := HV10.out
                subst hv10
                exact hj Z17 g10 cap10 g15 cap15 v6 Z9 Z14 V6 ⟨A17.out, OW10.out, OW15.out, ne17_10.out, ne17_15.out, BV.out, hlt17⟩
              · go_simp
                refine hKx.out _ _ ?_ (fun hHeld => ?_)
                · (try dsimp only); exact KK.out _ (below_new BV.out _)
                clear hKx Kx
                try simp only [Act.put, List.setIfInBounds_toArray, List.set_cons_zero, List.set_cons_succ]
                have hlt17 := BV.out.size
                have p14 := A14.out.lt
                have p10 : ∀ g, Value.ownBlock v10 = some g → g < V4.heap.size := fun g e => (OW10.out.lt g e).2
                replace BV := Lib.hid (below_new BV.out (tabO ⟨#[]⟩ 0 none 0 0 none 0 0))
                replace A14 := Lib.hid (A14.out.alloc (tabO ⟨#[]⟩ 0 none 0 0 none 0 0))
                replace OW10 := Lib.hid (OW10.out.alloc (tabO ⟨#[]⟩ 0 none 0 0 none 0 0))
                have A17 := Lib.hid (At.new V4 (tabO ⟨#[]⟩ 0 none 0 0 none 0 0))
                obtain ⟨Z17, hZ17⟩ : ∃ Z, Z = V4.heap.size := ⟨_, rfl⟩
                rw [← hZ17] at A17 hlt17 p14 p10 ⊢
                clear hZ17
                have r14_17 := Lib.hid p14
                have r10_17 := Lib.hid p10
                clear p14 p10
                generalize World.alloc V4 _ = V5 at BV hHeld A17 A14 OW10 ⊢
                refine lex_step (i := 15) rfl (by kernel_rfl) (by rfl) (fun Kx hKx => ?_)
                (go_simp; go_at_call 22; refine (concat_ints V5 Z14 0 2 a2 a3 n2 c2 n3 c3 ss st A14.out.lt (A14.out.cell 0) (A14.out.cell 1) (ints_thenX HA2.out BV.out) (ints_thenX HA3.out BV.out) (by omega) (by omega) e2 e3).mono ?_; rintro e V6 ⟨v15, rfl, own15, hb15⟩; (obtain ⟨g15, cap15, rfl, hg15, hg15l⟩ := own15.form (by omega)); try go_wp2_with fail)
                refine hKx.out _ _ ?_ (fun hHeld => ?_)
                · (try dsimp only); exact KK.out _ (below_then BV.out hb15)
                clear hKx Kx
                try simp only [Act.put, List.setIfInBounds_toArray, List.set_cons_zero, List.set_cons_succ]
                have p17 := A17.out.lt
                have ne17_15 := Lib.hid (show Z17 ≠ g15 by omega)
                clear p17
                have OW15 := Lib.hid (own_low own15 BV.out.size)
                replace OW10 := Lib.hid (own_thenI OW10.out hb15)
                replace A17 := Lib.hid (A17.out.then_ hb15)
                replace BV := Lib.hid (below_then BV.out hb15)
                clear own15 hb15 hg15 hg15l A14
                refine lex_take (i := 16) (v := ?_) rfl (by kernel_rfl) (by kernel_rfl) (by kernel_rfl) (fun _ _ _ h => h) (by rfl) ?_ (by assumption) ?_
                rotate_left
                · (intro w hSw; (try dsimp only at hSw); go_simp; try with_reducible rfl)
                try simp only [Act.put, List.setIfInBounds_toArray, List.set_cons_zero, List.set_cons_succ]
                have ne17_10 := Lib.hid (show Z17 ≠ g10 from fun e => by have := r10_17.out g10 (by rw [HV10.out]; rfl); omega)
                have hv10 := HV10.out
                subst hv10
                exact hj Z17 g10 cap10 g15 cap15 v6 Z9 Z14 V6 ⟨A17.out, OW10.out, OW15.out, ne17_10.out, ne17_15.out, BV.out, hlt17⟩
            · go_simp
              refine hKx.out _ _ ?_ (fun hHeld => ?_)
              · (try dsimp only); exact KK.out _ (below_new BV.out _)
              clear hKx Kx
              try simp only [Act.put, List.setIfInBounds_toArray, List.set_cons_zero, List.set_cons_succ]
              have hlt17 := BV.out.size
              have p9 := A9.out.lt
              have p14 := A14.out.lt
              have p6 : ∀ g, Value.ownBlock v6 = some g → g < V3.heap.size := fun g e => (OW6.out.lt g e).2
              replace BV := Lib.hid (below_new BV.out (tabO ⟨#[]⟩ 0 none 0 0 none 0 0))
              replace A9 := Lib.hid (A9.out.alloc (tabO ⟨#[]⟩ 0 none 0 0 none 0 0))
              replace A14 := Lib.hid (A14.out.alloc (tabO ⟨#[]⟩ 0 none 0 0 none 0 0))
              replace OW6 := Lib.hid (OW6.out.alloc (tabO ⟨#[]⟩ 0 none 0 0 none 0 0))
              have A17 := Lib.hid (At.new V3 (tabO ⟨#[]⟩ 0 none 0 0 none 0 0))
              obtain ⟨Z17, hZ17⟩ : ∃ Z, Z = V3.heap.size := ⟨_, rfl⟩
              rw [← hZ17] at A17 hlt17 p9 p14 p6 ⊢
              clear hZ17
              have r9_17 := Lib.hid p9
              have r14_17 := Lib.hid p14
              have r6_17 := Lib.hid p6
              clear p9 p14 p6
              generalize World.alloc V3 _ = V4 at BV hHeld A17 A9 A14 OW6 ⊢
              refine lex_step (i := 10) rfl (by kernel_rfl) (by rfl) (fun Kx hKx => ?_)
              have p17b := Lib.hid A17.out.lt
              (refine wp_append_lies V4 _ _ _ (by rfl) w2.heap.size 3 i0 (.int .i64 0) 1 8 Try.underlying22 hi hz0 hz1 hz2 rfl (by decide) v6 n1 (ms.map (Value.int .i64)) (by rfl) OW6.out ⟨Z9, 0, none⟩ 1 1 [.int .i64 (n3 : Int)] (by rfl) (by rfl) (World.news_of_block (cs := #[.int .i64 (n3 : Int)]) (t := 3) (fr := (0, 0)) A9.out) (by simp [Value.oneCell']) (by decide) (by unfold maxLen; omega) (by omega) BV.out.size _ rfl ?_; intro g10 cap10 V5 own10 hgrow hlies hglt)
              refine hKx.out _ _ ?_ (fun hHeld => ?_)
              · (try dsimp only); exact KK.out _ (BV.out.grown hgrow BV.out.size (fun b hb => (OW6.out.lt b hb).1))
              clear hKx Kx
              try simp only [Act.put, List.setIfInBounds_toArray, List.set_cons_zero, List.set_cons_succ]
              replace A14 := Lib.hid (show At V5 Z14 _ from (hgrow.block Z14 A14.out.lt (fun e => by have := r14_6.out Z14 e.symm; omega)).trans A14.out)
              replace A17 := Lib.hid (show At V5 Z17 _ from (hgrow.block Z17 A17.out.lt (fun e => by have := r6_17.out Z17 e.symm; omega)).trans A17.out)
              have ne17_10 := Lib.hid (show Z17 ≠ g10 from fun e => by
                have hl := p17b.out
                rcases hlies with h | h
                · have := r6_17.out g10 h; omega
                · omega)
              replace BV := Lib.hid (BV.out.grown hgrow BV.out.size (fun b hb => (OW6.out.lt b hb).1))
              obtain ⟨v10, hv10⟩ : ∃ v, v = Value.slice (some ⟨g10, 0, none⟩) (n1 + 1) cap10 := ⟨_, rfl⟩
              have HV10 := Lib.hid hv10
              rw [← hv10] at own10
              clear hv10
              have OW10 := Lib.hid own10
              clear own10 hgrow hlies hglt OW6 A9
              refine lex_step (i := 15) rfl (by kernel_rfl) (by rfl) (fun Kx hKx => ?_)
              (go_simp; go_at_call 22; refine (concat_ints V5 Z14 0 2 a2 a3 n2 c2 n3 c3 ss st A14.out.lt (A14.out.cell 0) (A14.out.cell 1) (ints_thenX HA2.out BV.out) (ints_thenX HA3.out BV.out) (by omega) (by omega) e2 e3).mono ?_; rintro e V6 ⟨v15, rfl, own15, hb15⟩; (obtain ⟨g15, cap15, rfl, hg15, hg15l⟩ := own15.form (by omega)); try go_wp2_with fail)
              refine hKx.out _ _ ?_ (fun hHeld => ?_)
              · (try dsimp only); exact KK.out _ (below_then BV.out hb15)
              clear hKx Kx
              try simp only [Act.put, List.setIfInBounds_toArray, List.set_cons_zero, List.set_cons_succ]
              have p17 := A17.out.lt
              have ne17_15 := Lib.hid (show Z17 ≠ g15 by omega)
              clear p17
              have OW15 := Lib.hid (own_low own15 BV.out.size)
              replace OW10 := Lib.hid (own_thenI OW10.out hb15)
              replace A17 := Lib.hid (A17.out.then_ hb15)
              replace BV := Lib.hid (below_then BV.out hb15)
              clear own15 hb15 hg15 hg15l A14
              refine lex_take (i := 16) (v := ?_) rfl (by kernel_rfl) (by kernel_rfl) (by kernel_rfl) (fun _ _ _ h => h) (by rfl) ?_ (by assumption) ?_
              rotate_left
              · (intro w hSw; (try dsimp only at hSw); go_simp; try with_reducible rfl)
              try simp only [Act.put, List.setIfInBounds_toArray, List.set_cons_zero, List.set_cons_succ]
              have hv10 := HV10.out
              subst hv10
              exact hj Z17 g10 cap10 g15 cap15 v6 Z9 Z14 V6 ⟨A17.out, OW10.out, OW15.out, ne17_10.out, ne17_15.out, BV.out, hlt17⟩
          · go_simp
            refine hKx.out _ _ ?_ (fun hHeld => ?_)
            · (try dsimp only); exact KK.out _ (below_new BV.out _)
            clear hKx Kx
            try simp only [Act.put, List.setIfInBounds_toArray, List.set_cons_zero, List.set_cons_succ]
            have hlt17 := BV.out.size
            have p9 := A9.out.lt
            have p14 := A14.out.lt
            replace BV := Lib.hid (below_new BV.out (tabO ⟨#[]⟩ 0 none 0 0 none 0 0))
            replace A9 := Lib.hid (A9.out.alloc (tabO ⟨#[]⟩ 0 none 0 0 none 0 0))
            replace A14 := Lib.hid (A14.out.alloc (tabO ⟨#[]⟩ 0 none 0 0 none 0 0))
            have A17 := Lib.hid (At.new V2 (tabO ⟨#[]⟩ 0 none 0 0 none 0 0))
            obtain ⟨Z17, hZ17⟩ : ∃ Z, Z = V2.heap.size := ⟨_, rfl⟩
            rw [← hZ17] at A17 hlt17 p9 p14 ⊢
            clear hZ17
            have r9_17 := Lib.hid p9
            have r14_17 := Lib.hid p14
            clear p9 p14
            generalize World.alloc V2 _ = V3 at BV hHeld A17 A9 A14 ⊢
            refine lex_step (i := 6) rfl (by kernel_rfl) (by rfl) (fun Kx hKx => ?_)
            (go_simp; go_at_call 21; refine (clone_ints V3 a1 n1 c1 ms (ints_thenX HA1.out BV.out) (by omega)).mono ?_; rintro e V4 ⟨v6, rfl, own6, hb6⟩; try go_wp2_with fail)
            refine hKx.out _ _ ?_ (fun hHeld => ?_)
            · (try dsimp only); exact KK.out _ (below_then BV.out hb6)
            clear hKx Kx
            try simp only [Act.put, List.setIfInBounds_toArray, List.set_cons_zero, List.set_cons_succ]
            have p9 := A9.out.lt
            have p14 := A14.out.lt
            have p17 := A17.out.lt
            have r9_6 := Lib.hid (show ∀ g, Value.ownBlock v6 = some g → Z9 < g from fun g e => by have := (own6.lt g e).1; omega)
            have r14_6 := Lib.hid (show ∀ g, Value.ownBlock v6 = some g → Z14 < g from fun g e => by have := (own6.lt g e).1; omega)
            have r17_6 := Lib.hid (show ∀ g, Value.ownBlock v6 = some g → Z17 < g from fun g e => by have := (own6.lt g e).1; omega)
            clear p9 p14 p17
            have OW6 := Lib.hid (own_low own6 BV.out.size)
            replace A9 := Lib.hid (A9.out.then_ hb6)
            replace A14 := Lib.hid (A14.out.then_ hb6)
            replace A17 := Lib.hid (A17.out.then_ hb6)
            replace BV := Lib.hid (below_then BV.out hb6)
            clear own6 hb6
            refine lex_step (i := 10) rfl (by kernel_rfl) (by rfl) (fun Kx hKx => ?_)
            have p17b := Lib.hid A17.out.lt
            (refine wp_append_lies V4 _ _ _ (by rfl) w2.heap.size 3 i0 (.int .i64 0) 1 8 Try.underlying22 hi hz0 hz1 hz2 rfl (by decide) v6 n1 (ms.map (Value.int .i64)) (by rfl) OW6.out ⟨Z9, 0, none⟩ 1 1 [.int .i64 (n3 : Int)] (by rfl) (by rfl) (World.news_of_block (cs := #[.int .i64 (n3 : Int)]) (t := 3) (fr := (0, 0)) A9.out) (by simp [Value.oneCell']) (by decide) (by unfold maxLen; omega) (by omega) BV.out.size _ rfl ?_; intro g10 cap10 V5 own10 hgrow hlies hglt)
            refine hKx.out _ _ ?_ (fun hHeld => ?_)
            · (try dsimp only); exact KK.out _ (BV.out.grown hgrow BV.out.size (fun b hb => (OW6.out.lt b hb).1))
            clear hKx Kx
            try simp only [Act.put, List.setIfInBounds_toArray, List.set_cons_zero, List.set_cons_succ]
            replace A14 := Lib.hid (show At V5 Z14 _ from (hgrow.block Z14 A14.out.lt (fun e => by have := r14_6.out Z14 e.symm; omega)).trans A14.out)
            replace A17 := Lib.hid (show At V5 Z17 _ from (hgrow.block Z17 A17.out.lt (fun e => by have := r17_6.out Z17 e.symm; omega)).trans A17.out)
            have ne17_10 := Lib.hid (show Z17 ≠ g10 from fun e => by
              have hl := p17b.out
              rcases hlies with h | h
              · have := r17_6.out g10 h; omega
              · omega)
            replace BV := Lib.hid (BV.out.grown hgrow BV.out.size (fun b hb => (OW6.out.lt b hb).1))
            obtain ⟨v10, hv10⟩ : ∃ v, v = Value.slice (some ⟨g10, 0, none⟩) (n1 + 1) cap10 := ⟨_, rfl⟩
            have HV10 := Lib.hid hv10
            rw [← hv10] at own10
            clear hv10
            have OW10 := Lib.hid own10
            clear own10 hgrow hlies hglt OW6 A9
            refine lex_step (i := 15) rfl (by kernel_rfl) (by rfl) (fun Kx hKx => ?_)
            (go_simp; go_at_call 22; refine (concat_ints V5 Z14 0 2 a2 a3 n2 c2 n3 c3 ss st A14.out.lt (A14.out.cell 0) (A14.out.cell 1) (ints_thenX HA2.out BV.out) (ints_thenX HA3.out BV.out) (by omega) (by omega) e2 e3).mono ?_; rintro e V6 ⟨v15, rfl, own15, hb15⟩; (obtain ⟨g15, cap15, rfl, hg15, hg15l⟩ := own15.form (by omega)); try go_wp2_with fail)
            refine hKx.out _ _ ?_ (fun hHeld => ?_)
            · (try dsimp only); exact KK.out _ (below_then BV.out hb15)
            clear hKx Kx
            try simp only [Act.put, List.setIfInBounds_toArray, List.set_cons_zero, List.set_cons_succ]
            have p17 := A17.out.lt
            have ne17_15 := Lib.hid (show Z17 ≠ g15 by omega)
            clear p17
            have OW15 := Lib.hid (own_low own15 BV.out.size)
            replace OW10 := Lib.hid (own_thenI OW10.out hb15)
            replace A17 := Lib.hid (A17.out.then_ hb15)
            replace BV := Lib.hid (below_then BV.out hb15)
            clear own15 hb15 hg15 hg15l A14
            refine lex_take (i := 16) (v := ?_) rfl (by kernel_rfl) (by kernel_rfl) (by kernel_rfl) (fun _ _ _ h => h) (by rfl) ?_ (by assumption) ?_
            rotate_left
            · (intro w hSw; (try dsimp only at hSw); go_simp; try with_reducible rfl)
            try simp only [Act.put, List.setIfInBounds_toArray, List.set_cons_zero, List.set_cons_succ]
            have hv10 := HV10.out
            subst hv10
            exact hj Z17 g10 cap10 g15 cap15 v6 Z9 Z14 V6 ⟨A17.out, OW10.out, OW15.out, ne17_10.out, ne17_15.out, BV.out, hlt17⟩
        · as_aux_lemma =>
          go_simp
          refine hKx.out _ _ ?_ (fun hHeld => ?_)
          · (try dsimp only); exact KK.out _ (below_new BV.out _)
          clear hKx Kx
          try simp only [Act.put, List.setIfInBounds_toArray, List.set_cons_zero, List.set_cons_succ]
          have hlt17 := BV.out.size
          have p14 := A14.out.lt
          replace BV := Lib.hid (below_new BV.out (tabO ⟨#[]⟩ 0 none 0 0 none 0 0))
          replace A14 := Lib.hid (A14.out.alloc (tabO ⟨#[]⟩ 0 none 0 0 none 0 0))
          have A17 := Lib.hid (At.new V1 (tabO ⟨#[]⟩ 0 none 0 0 none 0 0))
          obtain ⟨Z17, hZ17⟩ : ∃ Z, Z = V1.heap.size := ⟨_, rfl⟩
          rw [← hZ17] at A17 hlt17 p14 ⊢
          clear hZ17
          have r14_17 := Lib.hid p14
          clear p14
          generalize World.alloc V1 _ = V2 at BV hHeld A17 A14 ⊢
          refine lex_step2 (i := 6) (j := 9) rfl rfl (by kernel_rfl) (by rfl) (by rfl) (fun Kx hKx => ?_) (fun Kx hKx => ?_)
          · (go_simp; go_at_call 21; refine (clone_ints V2 a1 n1 c1 ms (ints_thenX HA1.out BV.out) (by omega)).mono ?_; rintro e V3 ⟨v6, rfl, own6, hb6⟩; try go_wp2_with fail)
            refine hKx.out _ _ ?_ (fun hHeld => ?_)
            · (try dsimp only); exact KK.out _ (below_then BV.out hb6)
            clear hKx Kx
            try simp only [Act.put, List.setIfInBounds_toArray, List.set_cons_zero, List.set_cons_succ]
            have p14 := A14.out.lt
            have p17 := A17.out.lt
            have r14_6 := Lib.hid (show ∀ g, Value.ownBlock v6 = some g → Z14 < g from fun g e => by have := (own6.lt g e).1; omega)
            have r17_6 := Lib.hid (show ∀ g, Value.ownBlock v6 = some g → Z17 < g from fun g e => by have := (own6.lt g e).1; omega)
            clear p14 p17
            have OW6 := Lib.hid (own_low own6 BV.out.size)
            replace A14 := Lib.hid (A14.out.then_ hb6)
            replace A17 := Lib.hid (A17.out.then_ hb6)
            replace BV := Lib.hid (below_then BV.out hb6)
            clear own6 hb6
            refine lex_step (i := 9) rfl (by kernel_rfl) (by rfl) (fun Kx hKx => ?_)
            go_simp
            refine hKx.out _ _ ?_ (fun hHeld => ?_)
            · (try dsimp only); exact KK.out _ (below_new BV.out _)
            clear hKx Kx
            try simp only [Act.put, List.setIfInBounds_toArray, List.set_cons_zero, List.set_cons_succ]
            have hlt9 := BV.out.size
            have p14 := A14.out.lt
            have p17 := A17.out.lt
            have p6 : ∀ g, Value.ownBlock v6 = some g → g < V3.heap.size := fun g e => (OW6.out.lt g e).2
            replace BV := Lib.hid (below_new BV.out (.cells #[.int .i64 (n3 : Int)] 3))
            replace A14 := Lib.hid (A14.out.alloc (.cells #[.int .i64 (n3 : Int)] 3))
            replace A17 := Lib.hid (A17.out.alloc (.cells #[.int .i64 (n3 : Int)] 3))
            replace OW6 := Lib.hid (OW6.out.alloc (.cells #[.int .i64 (n3 : Int)] 3))
            have A9 := Lib.hid (At.new V3 (.cells #[.int .i64 (n3 : Int)] 3))
            obtain ⟨Z9, hZ9⟩ : ∃ Z, Z = V3.heap.size := ⟨_, rfl⟩
            rw [← hZ9] at A9 hlt9 p14 p17 p6 ⊢
            clear hZ9
            have r14_9 := Lib.hid p14
            have r17_9 := Lib.hid p17
            have r6_9 := Lib.hid p6
            clear p14 p17 p6
            generalize World.alloc V3 _ = V4 at BV hHeld A9 A14 A17 OW6 ⊢
            refine lex_step (i := 10) rfl (by kernel_rfl) (by rfl) (fun Kx hKx => ?_)
            have p17b := Lib.hid A17.out.lt
            (refine wp_append_lies V4 _ _ _ (by rfl) w2.heap.size 3 i0 (.int .i64 0) 1 8 Try.underlying22 hi hz0 hz1 hz2 rfl (by decide) v6 n1 (ms.map (Value.int .i64)) (by rfl) OW6.out ⟨Z9, 0, none⟩ 1 1 [.int .i64 (n3 : Int)] (by rfl) (by rfl) (World.news_of_block (cs := #[.int .i64 (n3 : Int)]) (t := 3) (fr := (0, 0)) A9.out) (by simp [Value.oneCell']) (by decide) (by unfold maxLen; omega) (by omega) BV.out.size _ rfl ?_; intro g10 cap10 V5 own10 hgrow hlies hglt)
            refine hKx.out _ _ ?_ (fun hHeld => ?_)
            · (try dsimp only); exact KK.out _ (BV.out.grown hgrow BV.out.size (fun b hb => (OW6.out.lt b hb).1))
            clear hKx Kx
            try simp only [Act.put, List.setIfInBounds_toArray, List.set_cons_zero, List.set_cons_succ]
            replace A14 := Lib.hid (show At V5 Z14 _ from (hgrow.block Z14 A14.out.lt (fun e => by have := r14_6.out Z14 e.symm; omega)).trans A14.out)
            replace A17 := Lib.hid (show At V5 Z17 _ from (hgrow.block Z17 A17.out.lt (fun e => by have := r17_6.out Z17 e.symm; omega)).trans A17.out)
            have ne17_10 := Lib.hid (show Z17 ≠ g10 from fun e => by
              have hl := p17b.out
              rcases hlies with h | h
              · have := r17_6.out g10 h; omega
              · omega)
            replace BV := Lib.hid (BV.out.grown hgrow BV.out.size (fun b hb => (OW6.out.lt b hb).1))
            obtain ⟨v10, hv10⟩ : ∃ v, v = Value.slice (some ⟨g10, 0, none⟩) (n1 + 1) cap10 := ⟨_, rfl⟩
            have HV10 := Lib.hid hv10
            rw [← hv10] at own10
            clear hv10
            have OW10 := Lib.hid own10
            clear own10 hgrow hlies hglt OW6 A9
            refine lex_step (i := 15) rfl (by kernel_rfl) (by rfl) (fun Kx hKx => ?_)
            (go_simp; go_at_call 22; refine (concat_ints V5 Z14 0 2 a2 a3 n2 c2 n3 c3 ss st A14.out.lt (A14.out.cell 0) (A14.out.cell 1) (ints_thenX HA2.out BV.out) (ints_thenX HA3.out BV.out) (by omega) (by omega) e2 e3).mono ?_; rintro e V6 ⟨v15, rfl, own15, hb15⟩; (obtain ⟨g15, cap15, rfl, hg15, hg15l⟩ := own15.form (by omega)); try go_wp2_with fail)
            refine hKx.out _ _ ?_ (fun hHeld => ?_)
            · (try dsimp only); exact KK.out _ (below_then BV.out hb15)
            clear hKx Kx
            try simp only [Act.put, List.setIfInBounds_toArray, List.set_cons_zero, List.set_cons_succ]
            have p17 := A17.out.lt
            have ne17_15 := Lib.hid (show Z17 ≠ g15 by omega)
            clear p17
            have OW15 := Lib.hid (own_low own15 BV.out.size)
            replace OW10 := Lib.hid (own_thenI OW10.out hb15)
            replace A17 := Lib.hid (A17.out.then_ hb15)
            replace BV := Lib.hid (below_then BV.out hb15)
            clear own15 hb15 hg15 hg15l A14
            refine lex_take (i := 16) (v := ?_) rfl (by kernel_rfl) (by kernel_rfl) (by kernel_rfl) (fun _ _ _ h => h) (by rfl) ?_ (by assumption) ?_
            rotate_left
            · (intro w hSw; (try dsimp only at hSw); go_simp; try with_reducible rfl)
            try simp only [Act.put, List.setIfInBounds_toArray, List.set_cons_zero, List.set_cons_succ]
            have hv10 := HV10.out
            subst hv10
            exact hj Z17 g10 cap10 g15 cap15 v6 Z9 Z14 V6 ⟨A17.out, OW10.out, OW15.out, ne17_10.out, ne17_15.out, BV.out, hlt17⟩
          · go_simp
            refine hKx.out _ _ ?_ (fun hHeld => ?_)
            · (try dsimp only); exact KK.out _ (below_new BV.out _)
            clear hKx Kx
            try simp only [Act.put, List.setIfInBounds_toArray, List.set_cons_zero, List.set_cons_succ]
            have hlt9 := BV.out.size
            have p14 := A14.out.lt
            have p17 := A17.out.lt
            replace BV := Lib.hid (below_new BV.out (.cells #[.int .i64 (n3 : Int)] 3))
            replace A14 := Lib.hid (A14.out.alloc (.cells #[.int .i64 (n3 : Int)] 3))
            replace A17 := Lib.hid (A17.out.alloc (.cells #[.int .i64 (n3 : Int)] 3))
            have A9 := Lib.hid (At.new V2 (.cells #[.int .i64 (n3 : Int)] 3))
            obtain ⟨Z9, hZ9⟩ : ∃ Z, Z = V2.heap.size := ⟨_, rfl⟩
            rw [← hZ9] at A9 hlt9 p14 p17 ⊢
            clear hZ9
            have r14_9 := Lib.hid p14
            have r17_9 := Lib.hid p17
            clear p14 p17
            generalize World.alloc V2 _ = V3 at BV hHeld A9 A14 A17 ⊢
            refine lex_step (i := 6) rfl (by kernel_rfl) (by rfl) (fun Kx hKx => ?_)
            (go_simp; go_at_call 21; refine (clone_ints V3 a1 n1 c1 ms (ints_thenX HA1.out BV.out) (by omega)).mono ?_; rintro e V4 ⟨v6, rfl, own6, hb6⟩; try go_wp2_with fail)
            refine hKx.out _ _ ?_ (fun hHeld => ?_)
            · (try dsimp only); exact KK.out _ (below_then BV.out hb6)
            clear hKx Kx
            try simp only [Act.put, List.setIfInBounds_toArray, List.set_cons_zero, List.set_cons_succ]
            have p9 := A9.out.lt
            have p14 := A14.out.lt
            have p17 := A17.out.lt
            have r9_6 := Lib.hid (show ∀ g, Value.ownBlock v6 = some g → Z9 < g from fun g e => by have := (own6.lt g e).1; omega)
            have r14_6 := Lib.hid (show ∀ g, Value.ownBlock v6 = some g → Z14 < g from fun g e => by have := (own6.lt g e).1; omega)
            have r17_6 := Lib.hid (show ∀ g, Value.ownBlock v6 = some g → Z17 < g from fun g e => by have := (own6.lt g e).1; omega)
            clear p9 p14 p17
            have OW6 := Lib.hid (own_low own6 BV.out.size)
            replace A9 := Lib.hid (A9.out.then_ hb6)
            replace A14 := Lib.hid (A14.out.then_ hb6)
            replace A17 := Lib.hid (A17.out.then_ hb6)
            replace BV := Lib.hid (below_then BV.out hb6)
            clear own6 hb6
            refine lex_step (i := 10) rfl (by kernel_rfl) (by rfl) (fun Kx hKx => ?_)
            have p17b := Lib.hid A17.out.lt
            (refine wp_append_lies V4 _ _ _ (by rfl) w2.heap.size 3 i0 (.int .i64 0) 1 8 Try.underlying22 hi hz0 hz1 hz2 rfl (by decide) v6 n1 (ms.map (Value.int .i64)) (by rfl) OW6.out ⟨Z9, 0, none⟩ 1 1 [.int .i64 (n3 : Int)] (by rfl) (by rfl) (World.news_of_block (cs := #[.int .i64 (n3 : Int)]) (t := 3) (fr := (0, 0)) A9.out) (by simp [Value.oneCell']) (by decide) (by unfold maxLen; omega) (by omega) BV.out.size _ rfl ?_; intro g10 cap10 V5 own10 hgrow hlies hglt)
            refine hKx.out _ _ ?_ (fun hHeld => ?_)
            · (try dsimp only); exact KK.out _ (BV.out.grown hgrow BV.out.size (fun b hb => (OW6.out.lt b hb).1))
            clear hKx Kx
            try simp only [Act.put, List.setIfInBounds_toArray, List.set_cons_zero, List.set_cons_succ]
            replace A14 := Lib.hid (show At V5 Z14 _ from (hgrow.block Z14 A14.out.lt (fun e => by have := r14_6.out Z14 e.symm; omega)).trans A14.out)
            replace A17 := Lib.hid (show At V5 Z17 _ from (hgrow.block Z17 A17.out.lt (fun e => by have := r17_6.out Z17 e.symm; omega)).trans A17.out)
            have ne17_10 := Lib.hid (show Z17 ≠ g10 from fun e => by
              have hl := p17b.out
              rcases hlies with h | h
              · have := r17_6.out g10 h; omega
              · omega)
            replace BV := Lib.hid (BV.out.grown hgrow BV.out.size (fun b hb => (OW6.out.lt b hb).1))
            obtain ⟨v10, hv10⟩ : ∃ v, v = Value.slice (some ⟨g10, 0, none⟩) (n1 + 1) cap10 := ⟨_, rfl⟩
            have HV10 := Lib.hid hv10
            rw [← hv10] at own10
            clear hv10
            have OW10 := Lib.hid own10
            clear own10 hgrow hlies hglt OW6 A9
            refine lex_step (i := 15) rfl (by kernel_rfl) (by rfl) (fun Kx hKx => ?_)
            (go_simp; go_at_call 22; refine (concat_ints V5 Z14 0 2 a2 a3 n2 c2 n3 c3 ss st A14.out.lt (A14.out.cell 0) (A14.out.cell 1) (ints_thenX HA2.out BV.out) (ints_thenX HA3.out BV.out) (by omega) (by omega) e2 e3).mono ?_; rintro e V6 ⟨v15, rfl, own15, hb15⟩; (obtain ⟨g15, cap15, rfl, hg15, hg15l⟩ := own15.form (by omega)); try go_wp2_with fail)
            refine hKx.out _ _ ?_ (fun hHeld => ?_)
            · (try dsimp only); exact KK.out _ (below_then BV.out hb15)
            clear hKx Kx
            try simp only [Act.put, List.setIfInBounds_toArray, List.set_cons_zero, List.set_cons_succ]
            have p17 := A17.out.lt
            have ne17_15 := Lib.hid (show Z17 ≠ g15 by omega)
            clear p17
            have OW15 := Lib.hid (own_low own15 BV.out.size)
            replace OW10 := Lib.hid (own_thenI OW10.out hb15)
            replace A17 := Lib.hid (A17.out.then_ hb15)
            replace BV := Lib.hid (below_then BV.out hb15)
            clear own15 hb15 hg15 hg15l A14
            refine lex_take (i := 16) (v := ?_) rfl (by kernel_rfl) (by kernel_rfl) (by kernel_rfl) (fun _ _ _ h => h) (by rfl) ?_ (by assumption) ?_
            rotate_left
            · (intro w hSw; (try dsimp only at hSw); go_simp; try with_reducible rfl)
            try simp only [Act.put, List.setIfInBounds_toArray, List.set_cons_zero, List.set_cons_succ]
            have hv10 := HV10.out
            subst hv10
            exact hj Z17 g10 cap10 g15 cap15 v6 Z9 Z14 V6 ⟨A17.out, OW10.out, OW15.out, ne17_10.out, ne17_15.out, BV.out, hlt17⟩
      · as_aux_lemma =>
        go_simp
        refine hKx.out _ _ ?_ (fun hHeld => ?_)
        · (try dsimp only); exact KK.out _ (below_new BV.out _)
        clear hKx Kx
        try simp only [Act.put, List.setIfInBounds_toArray, List.set_cons_zero, List.set_cons_succ]
        have hlt17 := BV.out.size
        replace BV := Lib.hid (below_new BV.out (tabO ⟨#[]⟩ 0 none 0 0 none 0 0))
        have A17 := Lib.hid (At.new V0 (tabO ⟨#[]⟩ 0 none 0 0 none 0 0))
        obtain ⟨Z17, hZ17⟩ : ∃ Z, Z = V0.heap.size := ⟨_, rfl⟩
        rw [← hZ17] at A17 hlt17 ⊢
        clear hZ17
        generalize World.alloc V0 _ = V1 at BV hHeld A17 ⊢
        refine lex_step3 (i := 6) (j := 9) (k := 14) rfl rfl rfl (by kernel_rfl) (by rfl) (by rfl) (by rfl) (fun Kx hKx => ?_) (fun Kx hKx => ?_) (fun Kx hKx => ?_)
        · as_aux_lemma =>
          (go_simp; go_at_call 21; refine (clone_ints V1 a1 n1 c1 ms (ints_thenX HA1.out BV.out) (by omega)).mono ?_; rintro e V2 ⟨v6, rfl, own6, hb6⟩; try go_wp2_with fail)
          refine hKx.out _ _ ?_ (fun hHeld => ?_)
          · (try dsimp only); exact KK.out _ (below_then BV.out hb6)
          clear hKx Kx
          try simp only [Act.put, List.setIfInBounds_toArray, List.set_cons_zero, List.set_cons_succ]
          have p17 := A17.out.lt
          have r17_6 := Lib.hid (show ∀ g, Value.ownBlock v6 = some g → Z17 < g from fun g e => by have := (own6.lt g e).1; omega)
          clear p17
          have OW6 := Lib.hid (own_low own6 BV.out.size)
          replace A17 := Lib.hid (A17.out.then_ hb6)
          replace BV := Lib.hid (below_then BV.out hb6)
          clear own6 hb6
          refine lex_step2 (i := 9) (j := 14) rfl rfl (by kernel_rfl) (by rfl) (by rfl) (fun Kx hKx => ?_) (fun Kx hKx => ?_)
          · go_simp
            refine hKx.out _ _ ?_ (fun hHeld => ?_)
            · (try dsimp only); exact KK.out _ (below_new BV.out _)
            clear hKx Kx
            try simp only [Act.put, List.setIfInBounds_toArray, List.set_cons_zero, List.set_cons_succ]
            have hlt9 := BV.out.size
            have p17 := A17.out.lt
            have p6 : ∀ g, Value.ownBlock v6 = some g → g < V2.heap.size := fun g e => (OW6.out.lt g e).2
            replace BV := Lib.hid (below_new BV.out (.cells #[.int .i64 (n3 : Int)] 3))
            replace A17 := Lib.hid (A17.out.alloc (.cells #[.int .i64 (n3 : Int)] 3))
            replace OW6 := Lib.hid (OW6.out.alloc (.cells #[.int .i64 (n3 : Int)] 3))
            have A9 := Lib.hid (At.new V2 (.cells #[.int .i64 (n3 : Int)] 3))
            obtain ⟨Z9, hZ9⟩ : ∃ Z, Z = V2.heap.size := ⟨_, rfl⟩
            rw [← hZ9] at A9 hlt9 p17 p6 ⊢
            clear hZ9
            have r17_9 := Lib.hid p17
            have r6_9 := Lib.hid p6
            clear p17 p6
            generalize World.alloc V2 _ = V3 at BV hHeld A9 A17 OW6 ⊢
            refine lex_step2 (i := 10) (j := 14) rfl rfl (by kernel_rfl) (by rfl) (by rfl) (fun Kx hKx => ?_) (fun Kx hKx => ?_)
            · have p17b := Lib.hid A17.out.lt
              (refine wp_append_lies V3 _ _ _ (by rfl) w2.heap.size 3 i0 (.int .i64 0) 1 8 Try.underlying22 hi hz0 hz1 hz2 rfl (by decide) v6 n1 (ms.map (Value.int .i64)) (by rfl) OW6.out ⟨Z9, 0, none⟩ 1 1 [.int .i64 (n3 : Int)] (by rfl) (by rfl) (World.news_of_block (cs := #[.int .i64 (n3 : Int)]) (t := 3) (fr := (0, 0)) A9.out) (by simp [Value.oneCell']) (by decide) (by unfold maxLen; omega) (by omega) BV.out.size _ rfl ?_; intro g10 cap10 V4 own10 hgrow hlies hglt)
              refine hKx.out _ _ ?_ (fun hHeld => ?_)
              · (try dsimp only); exact KK.out _ (BV.out.grown hgrow BV.out.size (fun b hb => (OW6.out.lt b hb).1))
              clear hKx Kx
              try simp only [Act.put, List.setIfInBounds_toArray, List.set_cons_zero, List.set_cons_succ]
              replace A17 := Lib.hid (show At V4 Z17 _ from (hgrow.block Z17 A17.out.lt (fun e => by have := r17_6.out Z17 e.symm; omega)).trans A17.out)
              have ne17_10 := Lib.hid (show Z17 ≠ g10 from fun e => by
                have hl := p17b.out
                rcases hlies with h | h
                · have := r17_6.out g10 h; omega
                · omega)
              replace BV := Lib.hid (BV.out.grown hgrow BV.out.size (fun b hb => (OW6.out.lt b hb).1))
              obtain ⟨v10, hv10⟩ : ∃ v, v = Value.slice (some ⟨g10, 0, none⟩) (n1 + 1) cap10 := ⟨_, rfl⟩
              have HV10 := Lib.hid hv10
              rw [← hv10] at own10
              clear hv10
              have OW10 := Lib.hid own10
              clear own10 hgrow hlies hglt OW6 A9
              refine lex_step (i := 14) rfl (by kernel_rfl) (by rfl) (fun Kx hKx => ?_)
              go_simp
              refine hKx.out _ _ ?_ (fun hHeld => ?_)
              · (try dsimp only); exact KK.out _ (below_new BV.out _)
              clear hKx Kx
              try simp only [Act.put, List.setIfInBounds_toArray, List.set_cons_zero, List.set_cons_succ]
              have hlt14 := BV.out.size
              have p17 := A17.out.lt
              have p10 : ∀ g, Value.ownBlock v10 = some g → g < V4.heap.size := fun g e => (OW10.out.lt g e).2
              replace BV := Lib.hid (below_new BV.out (.cells #[.slice a2 n2 c2, .slice a3 n3 c3] 22))
              replace A17 := Lib.hid (A17.out.alloc (.cells #[.slice a2 n2 c2, .slice a3 n3 c3] 22))
              replace OW10 := Lib.hid (OW10.out.alloc (.cells #[.slice a2 n2 c2, .slice a3 n3 c3] 22))
              have A14 := Lib.hid (At.new V4 (.cells #[.slice a2 n2 c2, .slice a3 n3 c3] 22))
              obtain ⟨Z14, hZ14⟩ : ∃ Z, Z = V4.heap.size := ⟨_, rfl⟩
              rw [← hZ14] at A14 hlt14 p17 p10 ⊢
              clear hZ14
              have r17_14 := Lib.hid p17
              have r10_14 := Lib.hid p10
              clear p17 p10
              generalize World.alloc V4 _ = V5 at BV hHeld A14 A17 OW10 ⊢
              refine lex_step (i := 15) rfl (by kernel_rfl) (by rfl) (fun Kx hKx => ?_)
              (go_simp; go_at_call 22; refine (concat_ints V5 Z14 0 2 a2 a3 n2 c2 n3 c3 ss st A14.out.lt (A14.out.cell 0) (A14.out.cell 1) (ints_thenX HA2.out BV.out) (ints_thenX HA3.out BV.out) (by omega) (by omega) e2 e3).mono ?_; rintro e V6 ⟨v15, rfl, own15, hb15⟩; (obtain ⟨g15, cap15, rfl, hg15, hg15l⟩ := own15.form (by omega)); try go_wp2_with fail)
              refine hKx.out _ _ ?_ (fun hHeld => ?_)
              · (try dsimp only); exact KK.out _ (below_then BV.out hb15)
              clear hKx Kx
              try simp only [Act.put, List.setIfInBounds_toArray, List.set_cons_zero, List.set_cons_succ]
              have p17 := A17.out.lt
              have ne17_15 := Lib.hid (show Z17 ≠ g15 by omega)
              clear p17
              have OW15 := Lib.hid (own_low own15 BV.out.size)
              replace OW10 := Lib.hid (own_thenI OW10.out hb15)
              replace A17 := Lib.hid (A17.out.then_ hb15)
              replace BV := Lib.hid (below_then BV.out hb15)
              clear own15 hb15 hg15 hg15l A14
              refine lex_take (i := 16) (v := ?_) rfl (by kernel_rfl) (by kernel_rfl) (by kernel_rfl) (fun _ _ _ h => h) (by rfl) ?_ (by assumption) ?_
              rotate_left
              · (intro w hSw; (try dsimp only at hSw); go_simp; try with_reducible rfl)
              try simp only [Act.put, List.setIfInBounds_toArray, List.set_cons_zero, List.set_cons_succ]
              have hv10 := HV10.out
              subst hv10
              exact hj Z17 g10 cap10 g15 cap15 v6 Z9 Z14 V6 ⟨A17.out, OW10.out, OW15.out, ne17_10.out, ne17_15.out, BV.out, hlt17⟩
            · go_simp
              refine hKx.out _ _ ?_ (fun hHeld => ?_)
              · (try dsimp only); exact KK.out _ (below_new BV.out _)
              clear hKx Kx
              try simp only [Act.put, List.setIfInBounds_toArray, List.set_cons_zero, List.set_cons_succ]
              have hlt14 := BV.out.size
              have p9 := A9.out.lt
              have p17 := A17.out.lt
              have p6 : ∀ g, Value.ownBlock v6 = some g → g < V3.heap.size := fun g e => (OW6.out.lt g e).2
              replace BV := Lib.hid (below_new BV.out (.cells #[.slice a2 n2 c2, .slice a3 n3 c3] 22))
              replace A9 := Lib.hid (A9.out.alloc (.cells #[.slice a2 n2 c2, .slice a3 n3 c3] 22))
              replace A17 := Lib.hid (A17.out.alloc (.cells #[.slice a2 n2 c2, .slice a3 n3 c3] 22))
              replace OW6 := Lib.hid (OW6.out.alloc (.cells #[.slice a2 n2 c2, .slice a3 n3 c3] 22))
              have A14 := Lib.hid (At.new V3 (.cells #[.slice a2 n2 c2, .slice a3 n3 c3] 22))
              obtain ⟨Z14, hZ14⟩ : ∃ Z, Z = V3.heap.size := ⟨_, rfl⟩
              rw [← hZ14] at A14 hlt14 p9 p17 p6 ⊢
              clear hZ14
              have r9_14 := Lib.hid p9
              have r17_14 := Lib.hid p17
              have r6_14 := Lib.hid p6
              clear p9 p17 p6
              generalize World.alloc V3 _ = V4 at BV hHeld A14 A9 A17 OW6 ⊢
              refine lex_step (i := 10) rfl (by kernel_rfl) (by rfl) (fun Kx hKx => ?_)
              have p17b := Lib.hid A17.out.lt
              (refine wp_append_lies V4 _ _ _ (by rfl) w2.heap.size 3 i0 (.int .i64 0) 1 8 Try.underlying22 hi hz0 hz1 hz2 rfl (by decide) v6 n1 (ms.map (Value.int .i64)) (by rfl) OW6.out ⟨Z9, 0, none⟩ 1 1 [.int .i64 (n3 : Int)] (by rfl) (by rfl) (World.news_of_block (cs := #[.int .i64 (n3 : Int)]) (t := 3) (fr := (0, 0)) A9.out) (by simp [Value.oneCell']) (by decide) (by unfold maxLen; omega) (by omega) BV.out.size _ rfl ?_; intro g10 cap10 V5 own10 hgrow hlies hglt)
              refine hKx.out _ _ ?_ (fun hHeld => ?_)
              · (try dsimp only); exact KK.out _ (BV.out.grown hgrow BV.out.size (fun b hb => (OW6.out.lt b hb).1))
              clear hKx Kx
              try simp only [Act.put, List.setIfInBounds_toArray, List.set_cons_zero, List.set_cons_succ]
              replace A14 := Lib.hid (show At V5 Z14 _ from (hgrow.block Z14 A14.out.lt (fun e => by have := r6_14.out Z14 e.symm; omega)).trans A14.out)
              replace A17 := Lib.hid (show At V5 Z17 _ from (hgrow.block Z17 A17.out.lt (fun e => by have := r17_6.out Z17 e.symm; omega)).trans A17.out)
              have ne17_10 := Lib.hid (show Z17 ≠ g10 from fun e => by
                have hl := p17b.out
                rcases hlies with h | h
                · have := r17_6.out g10 h; omega
                · omega)
              replace BV := Lib.hid (BV.out.grown hgrow BV.out.size (fun b hb => (OW6.out.lt b hb).1))
              obtain ⟨v10, hv10⟩ : ∃ v, v = Value.slice (some ⟨g10, 0, none⟩) (n1 + 1) cap10 := ⟨_, rfl⟩
              have HV10 := Lib.hid hv10
              rw [← hv10] at own10
              clear hv10
              have OW10 := Lib.hid own10
              clear own10 hgrow hlies hglt OW6 A9
              refine lex_step (i := 15) rfl (by kernel_rfl) (by rfl) (fun Kx hKx => ?_)
              (go_simp; go_at_call 22; refine (concat_ints V5 Z14 0 2 a2 a3 n2 c2 n3 c3 ss st A14.out.lt (A14.out.cell 0) (A14.out.cell 1) (ints_thenX HA2.out BV.out) (ints_thenX HA3.out BV.out) (by omega) (by omega) e2 e3).mono ?_; rintro e V6 ⟨v15, rfl, own15, hb15⟩; (obtain ⟨g15, cap15, rfl, hg15, hg15l⟩ := own15.form (by omega)); try go_wp2_with fail)
              refine hKx.out _ _ ?_ (fun hHeld => ?_)
              · (try dsimp only); exact KK.out _ (below_then BV.out hb15)
              clear hKx Kx
              try simp only [Act.put, List.setIfInBounds_toArray, List.set_cons_zero, List.set_cons_succ]
              have p17 := A17.out.lt
              have ne17_15 := Lib.hid (show Z17 ≠ g15 by omega)
              clear p17
              have OW15 := Lib.hid (own_low own15 BV.out.size)
              replace OW10 := Lib.hid (own_thenI OW10.out hb15)
              replace A17 := Lib.hid (A17.out.then_ hb15)
              replace BV := Lib.hid (below_then BV.out hb15)
              clear own15 hb15 hg15 hg15l A14
              refine lex_take (i := 16) (v := ?_) rfl (by kernel_rfl) (by kernel_rfl) (by kernel_rfl) (fun _ _ _ h => h) (by rfl) ?_ (by assumption) ?_
              rotate_left
              · (intro w hSw; (try dsimp only at hSw); go_simp; try with_reducible rfl)
              try simp only [Act.put, List.setIfInBounds_toArray, List.set_cons_zero, List.set_cons_succ]
              have hv10 := HV10.out
              subst hv10
              exact hj Z17 g10 cap10 g15 cap15 v6 Z9 Z14 V6 ⟨A17.out, OW10.out, OW15.out, ne17_10.out, ne17_15.out, BV.out, hlt17⟩
          · go_simp
            refine hKx.out _ _ ?_ (fun hHeld => ?_)
            · (try dsimp only); exact KK.out _ (below_new BV.out _)
            clear hKx Kx
            try simp only [Act.put, List.setIfInBounds_toArray, List.set_cons_zero, List.set_cons_succ]
            have hlt14 := BV.out.size
            have p17 := A17.out.lt
            have p6 : ∀ g, Value.ownBlock v6 = some g → g < V2.heap.size := fun g e => (OW6.out.lt g e).2
            replace BV := Lib.hid (below_new BV.out (.cells #[.slice a2 n2 c2, .slice a3 n3 c3] 22))
            replace A17 := Lib.hid (A17.out.alloc (.cells #[.slice a2 n2 c2, .slice a3 n3 c3] 22))
            replace OW6 := Lib.hid (OW6.out.alloc (.cells #[.slice a2 n2 c2, .slice a3 n3 c3] 22))
            have A14 := Lib.hid (At.new V2 (.cells #[.slice a2 n2 c2, .slice a3 n3 c3] 22))
            obtain ⟨Z14, hZ14⟩ : ∃ Z, Z = V2.heap.size := ⟨_, rfl⟩
            rw [← hZ14] at A14 hlt14 p17 p6 ⊢
            clear hZ14
            have r17_14 := Lib.hid p17
            have r6_14 := Lib.hid p6
            clear p17 p6
            generalize World.alloc V2 _ = V3 at BV hHeld A14 A17 OW6 ⊢
            refine lex_step (i := 9) rfl (by kernel_rfl) (by rfl) (fun Kx hKx => ?_)
            go_simp
            refine hKx.out _ _ ?_ (fun hHeld => ?_)
            · (try dsimp only); exact KK.out _ (below_new BV.out _)
            clear hKx Kx
            try simp only [Act.put, List.setIfInBounds_toArray, List.set_cons_zero, List.set_cons_succ]
            have hlt9 := BV.out.size
            have p14 := A14.out.lt
            have p17 := A17.out.lt
            have p6 : ∀ g, Value.ownBlock v6 = some g → g < V3.heap.size := fun g e => (OW6.out.lt g e).2
            replace BV := Lib.hid (below_new BV.out (.cells #[.int .i64 (n3 : Int)] 3))
            replace A14 := Lib.hid (A14.out.alloc (.cells #[.int .i64 (n3 : Int)] 3))
            replace A17 := Lib.hid (A17.out.alloc (.cells #[.int .i64 (n3 : Int)] 3))
            replace OW6 := Lib.hid (OW6.out.alloc (.cells #[.int .i64 (n3 : Int)] 3))
            have A9 := Lib.hid (At.new V3 (.cells #[.int .i64 (n3 : Int)] 3))
            obtain ⟨Z9, hZ9⟩ : ∃ Z, Z = V3.heap.size := ⟨_, rfl⟩
            rw [← hZ9] at A9 hlt9 p14 p17 p6 ⊢
            clear hZ9
            have r14_9 := Lib.hid p14
            have r17_9 := Lib.hid p17
            have r6_9 := Lib.hid p6
            clear p14 p17 p6
            generalize World.alloc V3 _ = V4 at BV hHeld A9 A14 A17 OW6 ⊢
            refine lex_step (i := 10) rfl (by kernel_rfl) (by rfl) (fun Kx hKx => ?_)
            have p17b := Lib.hid A17.out.lt
            (refine wp_append_lies V4 _ _ _ (by rfl) w2.heap.size 3 i0 (.int .i64 0) 1 8 Try.underlying22 hi hz0 hz1 hz2 rfl (by decide) v6 n1 (ms.map (Value.int .i64)) (by rfl) OW6.out ⟨Z9, 0, none⟩ 1 1 [.int .i64 (n3 : Int)] (by rfl) (by rfl) (World.news_of_block (cs := #[.int .i64 (n3 : Int)]) (t := 3) (fr := (0, 0)) A9.out) (by simp [Value.oneCell']) (by decide) (by unfold maxLen; omega) (by omega) BV.out.size _ rfl ?_; intro g10 cap10 V5 own10 hgrow hlies hglt)
            refine hKx.out _ _ ?_ (fun hHeld => ?_)
            · (try dsimp only); exact KK.out _ (BV.out.grown hgrow BV.out.size (fun b hb => (OW6.out.lt b hb).1))
            clear hKx Kx
            try simp only [Act.put, List.setIfInBounds_toArray, List.set_cons_zero, List.set_cons_succ]
            replace A14 := Lib.hid (show At V5 Z14 _ from (hgrow.block Z14 A14.out.lt (fun e => by have := r6_14.out Z14 e.symm; omega)).trans A14.out)
            replace A17 := Lib.hid (show At V5 Z17 _ from (hgrow.block Z17 A17.out.lt (fun e => by have := r17_6.out Z17 e.symm; omega)).trans A17.out)
            have ne17_10 := Lib.hid (show Z17 ≠ g10 from fun e => by
              have hl := p17b.out
              rcases hlies with h | h
              · have := r17_6.out g10 h; omega
              · omega)
            replace BV := Lib.hid (BV.out.grown hgrow BV.out.size (fun b hb => (OW6.out.lt b hb).1))
            obtain ⟨v10, hv10⟩ : ∃ v, v = Value.slice (some ⟨g10, 0, none⟩) (n1 + 1) cap10 := ⟨_, rfl⟩
            have HV10 := Lib.hid hv10
            rw [← hv10] at own10
            clear hv10
            have OW10 := Lib.hid own10
            clear own10 hgrow hlies hglt OW6 A9
            refine lex_step (i := 15) rfl (by kernel_rfl) (by rfl) (fun Kx hKx => ?_)
            (go_simp; go_at_call 22; refine (concat_ints V5 Z14 0 2 a2 a3 n2 c2 n3 c3 ss st A14.out.lt (A14.out.cell 0) (A14.out.cell 1) (ints_thenX HA2.out BV.out) (ints_thenX HA3.out BV.out) (by omega) (by omega) e2 e3).mono ?_; rintro e V6 ⟨v15, rfl, own15, hb15⟩; (obtain ⟨g15, cap15, rfl, hg15, hg15l⟩ := own15.form (by omega)); try go_wp2_with fail)
            refine hKx.out _ _ ?_ (fun hHeld => ?_)
            · (try dsimp only); exact KK.out _ (below_then BV.out hb15)
            clear hKx Kx
            try simp only [Act.put, List.setIfInBounds_toArray, List.set_cons_zero, List.set_cons_succ]
            have p17 := A17.out.lt
            have ne17_15 := Lib.hid (show Z17 ≠ g15 by omega)
            clear p17
            have OW15 := Lib.hid (own_low own15 BV.out.size)
            replace OW10 := Lib.hid (own_thenI OW10.out hb15)
            replace A17 := Lib.hid (A17.out.then_ hb15)
            replace BV := Lib.hid (below_then BV.out hb15)
            clear own15 hb15 hg15 hg15l A14
            refine lex_take (i := 16) (v := ?_) rfl (by kernel_rfl) (by kernel_rfl) (by kernel_rfl) (fun _ _ _ h => h) (by rfl) ?_ (by assumption) ?_
            rotate_left
            · (intro w hSw; (try dsimp only at hSw); go_simp; try with_reducible rfl)
            try simp only [Act.put, List.setIfInBounds_toArray, List.set_cons_zero, List.set_cons_succ]
            have hv10 := HV10.out
            subst hv10
            exact hj Z17 g10 cap10 g15 cap15 v6 Z9 Z14 V6 ⟨A17.out, OW10.out, OW15.out, ne17_10.out, ne17_15.out, BV.out, hlt17⟩
        · as_aux_lemma =>
          go_simp
          refine hKx.out _ _ ?_ (fun hHeld => ?_)
          · (try dsimp only); exact KK.out _ (below_new BV.out _)
          clear hKx Kx
          try simp only [Act.put, List.setIfInBounds_toArray, List.set_cons_zero, List.set_cons_succ]
          have hlt9 := BV.out.size
          have p17 := A17.out.lt
          replace BV := Lib.hid (below_new BV.out (.cells #[.int .i64 (n3 : Int)] 3))
          replace A17 := Lib.hid (A17.out.alloc (.cells #[.int .i64 (n3 : Int)] 3))
          have A9 := Lib.hid (At.new V1 (.cells #[.int .i64 (n3 : Int)] 3))
          obtain ⟨Z9, hZ9⟩ : ∃ Z, Z = V1.heap.size := ⟨_, rfl⟩
          rw [← hZ9] at A9 hlt9 p17 ⊢
          clear hZ9
          have r17_9 := Lib.hid p17
          clear p17
          generalize World.alloc V1 _ = V2 at BV hHeld A9 A17 ⊢
          refine lex_step2 (i := 6) (j := 14) rfl rfl (by kernel_rfl) (by rfl) (by rfl) (fun Kx hKx => ?_) (fun Kx hKx => ?_)
          · (go_simp; go_at_call 21; refine (clone_ints V2 a1 n1 c1 ms (ints_thenX HA1.out BV.out) (by omega)).mono ?_; rintro e V3 ⟨v6, rfl, own6, hb6⟩; try go_wp2_with fail)
            refine hKx.out _ _ ?_ (fun hHeld => ?_)
            · (try dsimp only); exact KK.out _ (below_then BV.out hb6)
            clear hKx Kx
            try simp only [Act.put, List.setIfInBounds_toArray, List.set_cons_zero, List.set_cons_succ]
            have p9 := A9.out.lt
            have p17 := A17.out.lt
            have r9_6 := Lib.hid (show ∀ g, Value.ownBlock v6 = some g → Z9 < g from fun g e => by have := (own6.lt g e).1; omega)
            have r17_6 := Lib.hid (show ∀ g, Value.ownBlock v6 = some g → Z17 < g from fun g e => by have := (own6.lt g e).1; omega)
            clear p9 p17
            have OW6 := Lib.hid (own_low own6 BV.out.size)
            replace A9 := Lib.hid (A9.out.then_ hb6)
            replace A17 := Lib.hid (A17.out.then_ hb6)
            replace BV := Lib.hid (below_then BV.out hb6)
            clear own6 hb6
            refine lex_step2 (i := 10) (j := 14) rfl rfl (by kernel_rfl) (by rfl) (by rfl) (fun Kx hKx => ?_) (fun Kx hKx => ?_)
            · have p17b := Lib.hid A17.out.lt
              (refine wp_append_lies V3 _ _ _ (by rfl) w2.heap.size 3 i0 (.int .i64 0) 1 8 Try.underlying22 hi hz0 hz1 hz2 rfl (by decide) v6 n1 (ms.map (Value.int .i64)) (by rfl) OW6.out ⟨Z9, 0, none⟩ 1 1 [.int .i64 (n3 : Int)] (by rfl) (by rfl) (World.news_of_block (cs := #[.int .i64 (n3 : Int)]) (t := 3) (fr := (0, 0)) A9.out) (by simp [Value.oneCell']) (by decide) (by unfold maxLen; omega) (by omega) BV.out.size _ rfl ?_; intro g10 cap10 V4 own10 hgrow hlies hglt)
              refine hKx.out _ _ ?_ (fun hHeld => ?_)
              · (try dsimp only); exact KK.out _ (BV.out.grown hgrow BV.out.size (fun b hb => (OW6.out.lt b hb).1))
              clear hKx Kx
              try simp only [Act.put, List.setIfInBounds_toArray, List.set_cons_zero, List.set_cons_succ]
              replace A17 := Lib.hid (show At V4 Z17 _ from (hgrow.block Z17 A17.out.lt (fun e => by have := r17_6.out Z17 e.symm; omega)).trans A17.out)
              have ne17_10 := Lib.hid (show Z17 ≠ g10 from fun e => by
                have hl := p17b.out
                rcases hlies with h | h
                · have := r17_6.out g10 h; omega
                · omega)
              replace BV := Lib.hid (BV.out.grown hgrow BV.out.size (fun b hb => (OW6.out.lt b hb).1))
              obtain ⟨v10, hv10⟩ : ∃ v, v = Value.slice (some ⟨g10, 0, none⟩) (n1 + 1) cap10 := ⟨_, rfl⟩
              have HV10 := Lib.hid hv10
              rw [← hv10] at own10
              clear hv10
              have OW10 := Lib.hid own10
              clear own10 hgrow hlies hglt OW6 A9
              refine lex_step (i := 14) rfl (by kernel_rfl) (by rfl) (fun Kx hKx => ?_)
              go_simp
              refine hKx.out _ _ ?_ (fun hHeld => ?_)
              · (try dsimp only); exact KK.out _ (below_new BV.out _)
              clear hKx Kx
              try simp only [Act.put, List.setIfInBounds_toArray, List.set_cons_zero, List.set_cons_succ]
              have hlt14 := BV.out.size
              have p17 := A17.out.lt
              have p10 : ∀ g, Value.ownBlock v10 = some g → g < V4.heap.size := fun g e => (OW10.out.lt g e).2
              replace BV := Lib.hid (below_new BV.out (.cells #[.slice a2 n2 c2, .slice a3 n3 c3] 22))
              replace A17 := Lib.hid (A17.out.alloc (.cells #[.slice a2 n2 c2, .slice a3 n3 c3] 22))
              replace OW10 := Lib.hid (OW10.out.alloc (.cells #[.slice a2 n2 c2, .slice a3 n3 c3] 22))
              have A14 := Lib.hid (At.new V4 (.cells #[.slice a2 n2 c2, .slice a3 n3 c3] 22))
              obtain ⟨Z14, hZ14⟩ : ∃ Z, Z = V4.heap.size := ⟨_, rfl⟩
              rw [← hZ14] at A14 hlt14 p17 p10 ⊢
              clear hZ14
              have r17_14 := Lib.hid p17
              have r10_14 := Lib.hid p10
              clear p17 p10
              generalize World.alloc V4 _ = V5 at BV hHeld A14 A17 OW10 ⊢
              refine lex_step (i := 15) rfl (by kernel_rfl) (by rfl) (fun Kx hKx => ?_)
              (go_simp; go_at_call 22; refine (concat_ints V5 Z14 0 2 a2 a3 n2 c2 n3 c3 ss st A14.out.lt (A14.out.cell 0) (A14.out.cell 1) (ints_thenX HA2.out BV.out) (ints_thenX HA3.out BV.out) (by omega) (by omega) e2 e3).mono ?_; rintro e V6 ⟨v15, rfl, own15, hb15⟩; (obtain ⟨g15, cap15, rfl, hg15, hg15l⟩ := own15.form (by omega)); try go_wp2_with fail)
              refine hKx.out _ _ ?_ (fun hHeld => ?_)
              · (try dsimp only); exact KK.out _ (below_then BV.out hb15)
              clear hKx Kx
              try simp only [Act.put, List.setIfInBounds_toArray, List.set_cons_zero, List.set_cons_succ]
              have p17 := A17.out.lt
              have ne17_15 := Lib.hid (show Z17 ≠ g15 by omega)
              clear p17
              have OW15 := Lib.hid (own_low own15 BV.out.size)
              replace OW10 := Lib.hid (own_thenI OW10.out hb15)
              replace A17 := Lib.hid (A17.out.then_ hb15)
              replace BV := Lib.hid (below_then BV.out hb15)
              clear own15 hb15 hg15 hg15l A14
              refine lex_take (i := 16) (v := ?_) rfl (by kernel_rfl) (by kernel_rfl) (by kernel_rfl) (fun _ _ _ h => h) (by rfl) ?_ (by assumption) ?_
              rotate_left
              · (intro w hSw; (try dsimp only at hSw); go_simp; try with_reducible rfl)
              try simp only [Act.put, List.setIfInBounds_toArray, List.set_cons_zero, List.set_cons_succ]
              have hv10 := HV10.out
              subst hv10
              exact hj Z17 g10 cap10 g15 cap15 v6 Z9 Z14 V6 ⟨A17.out, OW10.out, OW15.out, ne17_10.out, ne17_15.out, BV.out, hlt17⟩
            · go_simp
              refine hKx.out _ _ ?_ (fun hHeld => ?_)
              · (try dsimp only); exact KK.out _ (below_new BV.out _)
              clear hKx Kx
              try simp only [Act.put, List.setIfInBounds_toArray, List.set_cons_zero, List.set_cons_succ]
              have hlt14 := BV.out.size
              have p9 := A9.out.lt
              have p17 := A17.out.lt
              have p6 : ∀ g, Value.ownBlock v6 = some g → g < V3.heap.size := fun g e => (OW6.out.lt g e).2
              replace BV := Lib.hid (below_new BV.out (.cells #[.slice a2 n2 c2, .slice a3 n3 c3] 22))
              replace A9 := Lib.hid (A9.out.alloc (.cells #[.slice a2 n2 c2, .slice a3 n3 c3] 22))
              replace A17 := Lib.hid (A17.out.alloc (.cells #[.slice a2 n2 c2, .slice a3 n3 c3] 22))
              replace OW6 := Lib.hid (OW6.out.alloc (.cells #[.slice a2 n2 c2, .slice a3 n3 c3] 22))
              have A14 := Lib.hid (At.new V3 (.cells #[.slice a2 n2 c2, .slice a3 n3 c3] 22))
              obtain ⟨Z14, hZ14⟩ : ∃ Z, Z = V3.heap.size := ⟨_, rfl⟩
              rw [← hZ14] at A14 hlt14 p9 p17 p6 ⊢
              clear hZ14
              have r9_14 := Lib.hid p9
              have r17_14 := Lib.hid p17
              have r6_14 := Lib.hid p6
              clear p9 p17 p6
              generalize World.alloc V3 _ = V4 at BV hHeld A14 A9 A17 OW6 ⊢
              refine lex_step (i := 10) rfl (by kernel_rfl) (by rfl) (fun Kx hKx => ?_)
              have p17b := Lib.hid A17.out.lt
              (refine wp_append_lies V4 _ _ _ (by rfl) w2.heap.size 3 i0 (.int .i64 0) 1 8 Try.underlying22 hi hz0 hz1 hz2 rfl (by decide) v6 n1 (ms.map (Value.int .i64)) (by rfl) OW6.out ⟨Z9, 0, none⟩ 1 1 [.int .i64 (n3 : Int)] (by rfl) (by rfl) (World.news_of_block (cs := #[.int .i64 (n3 : Int)]) (t := 3) (fr := (0, 0)) A9.out) (by simp [Value.oneCell']) (by decide) (by unfold maxLen; omega) (by omega) BV.out.size _ rfl ?_; intro g10 cap10 V5 own10 hgrow hlies hglt)
              refine hKx.out _ _ ?_ (fun hHeld => ?_)
              · (try dsimp only); exact KK.out _ (BV.out.grown hgrow BV.out.size (fun b hb => (OW6.out.lt b hb).1))
              clear hKx Kx
              try simp only [Act.put, List.setIfInBounds_toArray, List.set_cons_zero, List.set_cons_succ]
              replace A14 := Lib.hid (show At V5 Z14 _ from (hgrow.block Z14 A14.out.lt (fun e => by have := r6_14.out Z14 e.symm; omega)).trans A14.out)
              replace A17 := Lib.hid (show At V5 Z17 _ from (hgrow.block Z17 A17.out.lt (fun e => by have := r17_6.out Z17 e.symm; omega)).trans A17.out)
              have ne17_10 := Lib.hid (show Z17 ≠ g10 from fun e => by
                have hl := p17b.out
                rcases hlies with h | h
                · have := r17_6.out g10 h; omega
                · omega)
              replace BV := Lib.hid (BV.out.grown hgrow BV.out.size (fun b hb => (OW6.out.lt b hb).1))
              obtain ⟨v10, hv10⟩ : ∃ v, v = Value.slice (some ⟨g10, 0, none⟩) (n1 + 1) cap10 := ⟨_, rfl⟩
              have HV10 := Lib.hid hv10
              rw [← hv10] at own10
              clear hv10
              have OW10 := Lib.hid own10
              clear own10 hgrow hlies hglt OW6 A9
              refine lex_step (i := 15) rfl (by kernel_rfl) (by rfl) (fun Kx hKx => ?_)
              (go_simp; go_at_call 22; refine (concat_ints V5 Z14 0 2 a2 a3 n2 c2 n3 c3 ss st A14.out.lt (A14.out.cell 0) (A14.out.cell 1) (ints_thenX HA2.out BV.out) (ints_thenX HA3.out BV.out) (by omega) (by omega) e2 e3).mono ?_; rintro e V6 ⟨v15, rfl, own15, hb15⟩; (obtain ⟨g15, cap15, rfl, hg15, hg15l⟩ := own15.form (by omega)); try go_wp2_with fail)
              refine hKx.out _ _ ?_ (fun hHeld => ?_)
              · (try dsimp only); exact KK.out _ (below_then BV.out hb15)
              clear hKx Kx
              try simp only [Act.put, List.setIfInBounds_toArray, List.set_cons_zero, List.set_cons_succ]
              have p17 := A17.out.lt
              have ne17_15 := Lib.hid (show Z17 ≠ g15 by omega)
              clear p17
              have OW15 := Lib.hid (own_low own15 BV.out.size)
              replace OW10 := Lib.hid (own_thenI OW10.out hb15)
              replace A17 := Lib.hid (A17.out.then_ hb15)
              replace BV := Lib.hid (below_then BV.out hb15)
              clear own15 hb15 hg15 hg15l A14
              refine lex_take (i := 16) (v := ?_) rfl (by kernel_rfl) (by kernel_rfl) (by kernel_rfl) (fun _ _ _ h => h) (by rfl) ?_ (by assumption) ?_
              rotate_left
              · (intro w hSw; (try dsimp only at hSw); go_simp; try with_reducible rfl)
              try simp only [Act.put, List.setIfInBounds_toArray, List.set_cons_zero, List.set_cons_succ]
              have hv10 := HV10.out
              subst hv10
              exact hj Z17 g10 cap10 g15 cap15 v6 Z9 Z14 V6 ⟨A17.out, OW10.out, OW15.out, ne17_10.out, ne17_15.out, BV.out, hlt17⟩
          · go_simp
            refine hKx.out _ _ ?_ (fun hHeld => ?_)
            · (try dsimp only); exact KK.out _ (below_new BV.out _)
            clear hKx Kx
            try simp only [Act.put, List.setIfInBounds_toArray, List.set_cons_zero, List.set_cons_succ]
            have hlt14 := BV.out.size
            have p9 := A9.out.lt
            have p17 := A17.out.lt
            replace BV := Lib.hid (below_new BV.out (.cells #[.slice a2 n2 c2, .slice a3 n3 c3] 22))
            replace A9 := Lib.hid (A9.out.alloc (.cells #[.slice a2 n2 c2, .slice a3 n3 c3] 22))
            replace A17 := Lib.hid (A17.out.alloc (.cells #[.slice a2 n2 c2, .slice a3 n3 c3] 22))
            have A14 := Lib.hid (At.new V2 (.cells #[.slice a2 n2 c2, .slice a3 n3 c3] 22))
            obtain ⟨Z14, hZ14⟩ : ∃ Z, Z = V2.heap.size := ⟨_, rfl⟩
            rw [← hZ14] at A14 hlt14 p9 p17 ⊢
            clear hZ14
            have r9_14 := Lib.hid p9
            have r17_14 := Lib.hid p17
            clear p9 p17
            generalize World.alloc V2 _ = V3 at BV hHeld A14 A9 A17 ⊢
            refine lex_step (i := 6) rfl (by kernel_rfl) (by rfl) (fun Kx hKx => ?_)
            (go_simp; go_at_call 21; refine (clone_ints V3 a1 n1 c1 ms (ints_thenX HA1.out BV.out) (by omega)).mono ?_; rintro e V4 ⟨v6, rfl, own6, hb6⟩; try go_wp2_with fail)
            refine hKx.out _ _ ?_ (fun hHeld => ?_)
            · (try dsimp only); exact KK.out _ (below_then BV.out hb6)
            clear hKx Kx
            try simp only [Act.put, List.setIfInBounds_toArray, List.set_cons_zero, List.set_cons_succ]
            have p9 := A9.out.lt
            have p14 := A14.out.lt
            have p17 := A17.out.lt
            have r9_6 := Lib.hid (show ∀ g, Value.ownBlock v6 = some g → Z9 < g from fun g e => by have := (own6.lt g e).1; omega)
            have r14_6 := Lib.hid (show ∀ g, Value.ownBlock v6 = some g → Z14 < g from fun g e => by have := (own6.lt g e).1; omega)
            have r17_6 := Lib.hid (show ∀ g, Value.ownBlock v6 = some g → Z17 < g from fun g e => by have := (own6.lt g e).1; omega)
            clear p9 p14 p17
            have OW6 := Lib.hid (own_low own6 BV.out.size)
            replace A9 := Lib.hid (A9.out.then_ hb6)
            replace A14 := Lib.hid (A14.out.then_ hb6)
            replace A17 := Lib.hid (A17.out.then_ hb6)
            replace BV := Lib.hid (below_then BV.out hb6)
            clear own6 hb6
            refine lex_step (i := 10) rfl (by kernel_rfl) (by rfl) (fun Kx hKx => ?_)
            have p17b := Lib.hid A17.out.lt
            (refine wp_append_lies V4 _ _ _ (by rfl) w2.heap.size 3 i0 (.int .i64 0) 1 8 Try.underlying22 hi hz0 hz1 hz2 rfl (by decide) v6 n1 (ms.map (Value.int .i64)) (by rfl) OW6.out ⟨Z9, 0, none⟩ 1 1 [.int .i64 (n3 : Int)] (by rfl) (by rfl) (World.news_of_block (cs := #[.int .i64 (n3 : Int)]) (t := 3) (fr := (0, 0)) A9.out) (by simp [Value.oneCell']) (by decide) (by unfold maxLen; omega) (by omega) BV.out.size _ rfl ?_; intro g10 cap10 V5 own10 hgrow hlies hglt)
            refine hKx.out _ _ ?_ (fun hHeld => ?_)
            · (try dsimp only); exact KK.out _ (BV.out.grown hgrow BV.out.size (fun b hb => (OW6.out.lt b hb).1))
            clear hKx Kx
            try simp only [Act.put, List.setIfInBounds_toArray, List.set_cons_zero, List.set_cons_succ]
            replace A14 := Lib.hid (show At V5 Z14 _ from (hgrow.block Z14 A14.out.lt (fun e => by have := r14_6.out Z14 e.symm; omega)).trans A14.out)
            replace A17 := Lib.hid (show At V5 Z17 _ from (hgrow.block Z17 A17.out.lt (fun e => by have := r17_6.out Z17 e.symm; omega)).trans A17.out)
            have ne17_10 := Lib.hid (show Z17 ≠ g10 from fun e => by
              have hl := p17b.out
              rcases hlies with h | h
              · have := r17_6.out g10 h; omega
              · omega)
            replace BV := Lib.hid (BV.out.grown hgrow BV.out.size (fun b hb => (OW6.out.lt b hb).1))
            obtain ⟨v10, hv10⟩ : ∃ v, v = Value.slice (some ⟨g10, 0, none⟩) (n1 + 1) cap10 := ⟨_, rfl⟩
            have HV10 := Lib.hid hv10
            rw [← hv10] at own10
            clear hv10
            have OW10 := Lib.hid own10
            clear own10 hgrow hlies hglt OW6 A9
            refine lex_step (i := 15) rfl (by kernel_rfl) (by rfl) (fun Kx hKx => ?_)
            (go_simp; go_at_call 22; refine (concat_ints V5 Z14 0 2 a2 a3 n2 c2 n3 c3 ss st A14.out.lt (A14.out.cell 0) (A14.out.cell 1) (ints_thenX HA2.out BV.out) (ints_thenX HA3.out BV.out) (by omega) (by omega) e2 e3).mono ?_; rintro e V6 ⟨v15, rfl, own15, hb15⟩; (obtain ⟨g15, cap15, rfl, hg15, hg15l⟩ := own15.form (by omega)); try go_wp2_with fail)
            refine hKx.out _ _ ?_ (fun hHeld => ?_)
            · (try dsimp only); exact KK.out _ (below_then BV.out hb15)
            clear hKx Kx
            try simp only [Act.put, List.setIfInBounds_toArray, List.set_cons_zero, List.set_cons_succ]
            have p17 := A17.out.lt
            have ne17_15 := Lib.hid (show Z17 ≠ g15 by omega)
            clear p17
            have OW15 := Lib.hid (own_low own15 BV.out.size)
            replace OW10 := Lib.hid (own_thenI OW10.out hb15)
            replace A17 := Lib.hid (A17.out.then_ hb15)
            replace BV := Lib.hid (below_then BV.out hb15)
            clear own15 hb15 hg15 hg15l A14
            refine lex_take (i := 16) (v := ?_) rfl (by kernel_rfl) (by kernel_rfl) (by kernel_rfl) (fun _ _ _ h => h) (by rfl) ?_ (by assumption) ?_
            rotate_left
            · (intro w hSw; (try dsimp only at hSw); go_simp; try with_reducible rfl)
            try simp only [Act.put, List.setIfInBounds_toArray, List.set_cons_zero, List.set_cons_succ]
            have hv10 := HV10.out
            subst hv10
            exact hj Z17 g10 cap10 g15 cap15 v6 Z9 Z14 V6 ⟨A17.out, OW10.out, OW15.out, ne17_10.out, ne17_15.out, BV.out, hlt17⟩
        · as_aux_lemma =>
          go_simp
          refine hKx.out _ _ ?_ (fun hHeld => ?_)
          · (try dsimp only); exact KK.out _ (below_new BV.out _)
          clear hKx Kx
          try simp only [Act.put, List.setIfInBounds_toArray, List.set_cons_zero, List.set_cons_succ]
          have hlt14 := BV.out.size
          have p17 := A17.out.lt
          replace BV := Lib.hid (below_new BV.out (.cells #[.slice a2 n2 c2, .slice a3 n3 c3] 22))
          replace A17 := Lib.hid (A17.out.alloc (.cells #[.slice a2 n2 c2, .slice a3 n3 c3] 22))
          have A14 := Lib.hid (At.new V1 (.cells #[.slice a2 n2 c2, .slice a3 n3 c3] 22))
          obtain ⟨Z14, hZ14⟩ : ∃ Z, Z = V1.heap.size := ⟨_, rfl⟩
          rw [← hZ14] at A14 hlt14 p17 ⊢
          clear hZ14
          have r17_14 := Lib.hid p17
          clear p17
          generalize World.alloc V1 _ = V2 at BV hHeld A14 A17 ⊢
          refine lex_step2 (i := 6) (j := 9) rfl rfl (by kernel_rfl) (by rfl) (by rfl) (fun Kx hKx => ?_) (fun Kx hKx => ?_)
          · (go_simp; go_at_call 21; refine (clone_ints V2 a1 n1 c1 ms (ints_thenX HA1.out BV.out) (by omega)).mono ?_; rintro e V3 ⟨v6, rfl, own6, hb6⟩; try go_wp2_with fail)
            refine hKx.out _ _ ?_ (fun hHeld => ?_)
            · (try dsimp only); exact KK.out _ (below_then BV.out hb6)
            clear hKx Kx
            try simp only [Act.put, List.setIfInBounds_toArray, List.set_cons_zero, List.set_cons_succ]
            have p14 := A14.out.lt
            have p17 := A17.out.lt
            have r14_6 := Lib.hid (show ∀ g, Value.ownBlock v6 = some g → Z14 < g from fun g e => by have := (own6.lt g e).1; omega)
            have r17_6 := Lib.hid (show ∀ g, Value.ownBlock v6 = some g → Z17 < g from fun g e => by have := (own6.lt g e).1; omega)
            clear p14 p17
            have OW6 := Lib.hid (own_low own6 BV.out.size)
            replace A14 := Lib.hid (A14.out.then_ hb6)
            replace A17 := Lib.hid (A17.out.then_ hb6)
            replace BV := Lib.hid (below_then BV.out hb6)
            clear own6 hb6
            refine lex_step (i := 9) rfl (by kernel_rfl) (by rfl) (fun Kx hKx => ?_)
            go_simp
            refine hKx.out _ _ ?_ (fun hHeld => ?_)
            · (try dsimp only); exact KK.out _ (below_new BV.out _)
            clear hKx Kx
            try simp only [Act.put, List.setIfInBounds_toArray, List.set_cons_zero, List.set_cons_succ]
            have hlt9 := BV.out.size
            have p14 := A14.out.lt
            have p17 := A17.out.lt
            have p6 : ∀ g, Value.ownBlock v6 = some g → g < V3.heap.size := fun g e => (OW6.out.lt g e).2
            replace BV := Lib.hid (below_new BV.out (.cells #[.int .i64 (n3 : Int)] 3))
            replace A14 := Lib.hid (A14.out.alloc (.cells #[.int .i64 (n3 : Int)] 3))
            replace A17 := Lib.hid (A17.out.alloc (.cells #[.int .i64 (n3 : Int)] 3))
            replace OW6 := Lib.hid (OW6.out.alloc (.cells #[.int .i64 (n3 : Int)] 3))
            have A9 := Lib.hid (At.new V3 (.cells #[.int .i64 (n3 : Int)] 3))
            obtain ⟨Z9, hZ9⟩ : ∃ Z, Z = V3.heap.size := ⟨_, rfl⟩
            rw [← hZ9] at A9 hlt9 p14 p17 p6 ⊢
            clear hZ9
            have r14_9 := Lib.hid p14
            have r17_9 := Lib.hid p17
            have r6_9 := Lib.hid p6
            clear p14 p17 p6
            generalize World.alloc V3 _ = V4 at BV hHeld A9 A14 A17 OW6 ⊢
            refine lex_step (i := 10) rfl (by kernel_rfl) (by rfl) (fun Kx hKx => ?_)
            have p17b := Lib.hid A17.out.lt
            (refine wp_append_lies V4 _ _ _ (by rfl) w2.heap.size 3 i0 (.int .i64 0) 1 8 Try.underlying22 hi hz0 hz1 hz2 rfl (by decide) v6 n1 (ms.map (Value.int .i64)) (by rfl) OW6.out ⟨Z9, 0, none⟩ 1 1 [.int .i64 (n3 : Int)] (by rfl) (by rfl) (World.news_of_block (cs := #[.int .i64 (n3 : Int)]) (t := 3) (fr := (0, 0)) A9.out) (by simp [Value.oneCell']) (by decide) (by unfold maxLen; omega) (by omega) BV.out.size _ rfl ?_; intro g10 cap10 V5 own10 hgrow hlies hglt)
            refine hKx.out _ _ ?_ (fun hHeld => ?_)
            · (try dsimp only); exact KK.out _ (BV.out.grown hgrow BV.out.size (fun b hb => (OW6.out.lt b hb).1))
            clear hKx Kx
            try simp only [Act.put, List.setIfInBounds_toArray, List.set_cons_zero, List.set_cons_succ]
            replace A14 := Lib.hid (show At V5 Z14 _ from (hgrow.block Z14 A14.out.lt (fun e => by have := r14_6.out Z14 e.symm; omega)).trans A14.out)
            replace A17 := Lib.hid (show At V5 Z17 _ from (hgrow.block Z17 A17.out.lt (fun e => by have := r17_6.out Z17 e.symm; omega)).trans A17.out)
            have ne17_10 := Lib.hid (show Z17 ≠ g10 from fun e => by
              have hl := p17b.out
              rcases hlies with h | h
              · have := r17_6.out g10 h; omega
              · omega)
            replace BV := Lib.hid (BV.out.grown hgrow BV.out.size (fun b hb => (OW6.out.lt b hb).1))
            obtain ⟨v10, hv10⟩ : ∃ v, v = Value.slice (some ⟨g10, 0, none⟩) (n1 + 1) cap10 := ⟨_, rfl⟩
            have HV10 := Lib.hid hv10
            rw [← hv10] at own10
            clear hv10
            have OW10 := Lib.hid own10
            clear own10 hgrow hlies hglt OW6 A9
            refine lex_step (i := 15) rfl (by kernel_rfl) (by rfl) (fun Kx hKx => ?_)
            (go_simp; go_at_call 22; refine (concat_ints V5 Z14 0 2 a2 a3 n2 c2 n3 c3 ss st A14.out.lt (A14.out.cell 0) (A14.out.cell 1) (ints_thenX HA2.out BV.out) (ints_thenX HA3.out BV.out) (by omega) (by omega) e2 e3).mono ?_; rintro e V6 ⟨v15, rfl, own15, hb15⟩; (obtain ⟨g15, cap15, rfl, hg15, hg15l⟩ := own15.form (by omega)); try go_wp2_with fail)
            refine hKx.out _ _ ?_ (fun hHeld => ?_)
            · (try dsimp only); exact KK.out _ (below_then BV.out hb15)
            clear hKx Kx
            try simp only [Act.put, List.setIfInBounds_toArray, List.set_cons_zero, List.set_cons_succ]
            have p17 := A17.out.lt
            have ne17_15 := Lib.hid (show Z17 ≠ g15 by omega)
            clear p17
            have OW15 := Lib.hid (own_low own15 BV.out.size)
            replace OW10 := Lib.hid (own_thenI OW10.out hb15)
            replace A17 := Lib.hid (A17.out.then_ hb15)
            replace BV := Lib.hid (below_then BV.out hb15)
            clear own15 hb15 hg15 hg15l A14
            refine lex_take (i := 16) (v := ?_) rfl (by kernel_rfl) (by kernel_rfl) (by kernel_rfl) (fun _ _ _ h => h) (by rfl) ?_ (by assumption) ?_
            rotate_left
            · (intro w hSw; (try dsimp only at hSw); go_simp; try with_reducible rfl)
            try simp only [Act.put, List.setIfInBounds_toArray, List.set_cons_zero, List.set_cons_succ]
            have hv10 := HV10.out
            subst hv10
            exact hj Z17 g10 cap10 g15 cap15 v6 Z9 Z14 V6 ⟨A17.out, OW10.out, OW15.out, ne17_10.out, ne17_15.out, BV.out, hlt17⟩
          · go_simp
            refine hKx.out _ _ ?_ (fun hHeld => ?_)
            · (try dsimp only); exact KK.out _ (below_new BV.out _)
            clear hKx Kx
            try simp only [Act.put, List.setIfInBounds_toArray, List.set_cons_zero, List.set_cons_succ]
            have hlt9 := BV.out.size
            have p14 := A14.out.lt
            have p17 := A17.out.lt
            replace BV := Lib.hid (below_new BV.out (.cells #[.int .i64 (n3 : Int)] 3))
            replace A14 := Lib.hid (A14.out.alloc (.cells #[.int .i64 (n3 : Int)] 3))
            replace A17 := Lib.hid (A17.out.alloc (.cells #[.int .i64 (n3 : Int)] 3))
            have A9 := Lib.hid (At.new V2 (.cells #[.int .i64 (n3 : Int)] 3))
            obtain ⟨Z9, hZ9⟩ : ∃ Z, Z = V2.heap.size := ⟨_, rfl⟩
            rw [← hZ9] at A9 hlt9 p14 p17 ⊢
            clear hZ9
            have r14_9 := Lib.hid p14
            have r17_9 := Lib.hid p17
            clear p14 p17
            generalize World.alloc V2 _ = V3 at BV hHeld A9 A14 A17 ⊢
            refine lex_step (i := 6) rfl (by kernel_rfl) (by rfl) (fun Kx hKx => ?_)
            (go_simp; go_at_call 21; refine (clone_ints V3 a1 n1 c1 ms (ints_thenX HA1.out BV.out) (by omega)).mono ?_; rintro e V4 ⟨v6, rfl, own6, hb6⟩; try go_wp2_with fail)
            refine hKx.out _ _ ?_ (fun hHeld => ?_)
            · (try dsimp only); exact KK.out _ (below_then BV.out hb6)
            clear hKx Kx
            try simp only [Act.put, List.setIfInBounds_toArray, List.set_cons_zero, List.set_cons_succ]
            have p9 := A9.out.lt
            have p14 := A14.out.lt
            have p17 := A17.out.lt
            have r9_6 := Lib.hid (show ∀ g, Value.ownBlock v6 = some g → Z9 < g from fun g e => by have := (own6.lt g e).1; omega)
            have r14_6 := Lib.hid (show ∀ g, Value.ownBlock v6 = some g → Z14 < g from fun g e => by have := (own6.lt g e).1; omega)
            have r17_6 := Lib.hid (show ∀ g, Value.ownBlock v6 = some g → Z17 < g from fun g e => by have := (own6.lt g e).1; omega)
            clear p9 p14 p17
            have OW6 := Lib.hid (own_low own6 BV.out.size)
            replace A9 := Lib.hid (A9.out.then_ hb6)
            replace A14 := Lib.hid (A14.out.then_ hb6)
            replace A17 := Lib.hid (A17.out.then_ hb6)
            replace BV := Lib.hid (below_then BV.out hb6)
            clear own6 hb6
            refine lex_step (i := 10) rfl (by kernel_rfl) (by rfl) (fun Kx hKx => ?_)
            have p17b := Lib.hid A17.out.lt
            (refine wp_append_lies V4 _ _ _ (by rfl) w2.heap.size 3 i0 (.int .i64 0) 1 8 Try.underlying22 hi hz0 hz1 hz2 rfl (by decide) v6 n1 (ms.map (Value.int .i64)) (by rfl) OW6.out ⟨Z9, 0, none⟩ 1 1 [.int .i64 (n3 : Int)] (by rfl) (by rfl) (World.news_of_block (cs := #[.int .i64 (n3 : Int)]) (t := 3) (fr := (0, 0)) A9.out) (by simp [Value.oneCell']) (by decide) (by unfold maxLen; omega) (by omega) BV.out.size _ rfl ?_; intro g10 cap10 V5 own10 hgrow hlies hglt)
            refine hKx.out _ _ ?_ (fun hHeld => ?_)
            · (try dsimp only); exact KK.out _ (BV.out.grown hgrow BV.out.size (fun b hb => (OW6.out.lt b hb).1))
            clear hKx Kx
            try simp only [Act.put, List.setIfInBounds_toArray, List.set_cons_zero, List.set_cons_succ]
            replace A14 := Lib.hid (show At V5 Z14 _ from (hgrow.block Z14 A14.out.lt (fun e => by have := r14_6.out Z14 e.symm; omega)).trans A14.out)
            replace A17 := Lib.hid (show At V5 Z17 _ from (hgrow.block Z17 A17.out.lt (fun e => by have := r17_6.out Z17 e.symm; omega)).trans A17.out)
            have ne17_10 := Lib.hid (show Z17 ≠ g10 from fun e => by
              have hl := p17b.out
              rcases hlies with h | h
              · have := r17_6.out g10 h; omega
              · omega)
            replace BV := Lib.hid (BV.out.grown hgrow BV.out.size (fun b hb => (OW6.out.lt b hb).1))
            obtain ⟨v10, hv10⟩ : ∃ v, v = Value.slice (some ⟨g10, 0, none⟩) (n1 + 1) cap10 := ⟨_, rfl⟩
            have HV10 := Lib.hid hv10
            rw [← hv10] at own10
            clear hv10
            have OW10 := Lib.hid own10
            clear own10 hgrow hlies hglt OW6 A9
            refine lex_step (i := 15) rfl (by kernel_rfl) (by rfl) (fun Kx hKx => ?_)
            (go_simp; go_at_call 22; refine (concat_ints V5 Z14 0 2 a2 a3 n2 c2 n3 c3 ss st A14.out.lt (A14.out.cell 0) (A14.out.cell 1) (ints_thenX HA2.out BV.out) (ints_thenX HA3.out BV.out) (by omega) (by omega) e2 e3).mono ?_; rintro e V6 ⟨v15, rfl, own15, hb15⟩; (obtain ⟨g15, cap15, rfl, hg15, hg15l⟩ := own15.form (by omega)); try go_wp2_with fail)
            refine hKx.out _ _ ?_ (fun hHeld => ?_)
            · (try dsimp only); exact KK.out _ (below_then BV.out hb15)
            clear hKx Kx
            try simp only [Act.put, List.setIfInBounds_toArray, List.set_cons_zero, List.set_cons_succ]
            have p17 := A17.out.lt
            have ne17_15 := Lib.hid (show Z17 ≠ g15 by omega)
            clear p17
            have OW15 := Lib.hid (own_low own15 BV.out.size)
            replace OW10 := Lib.hid (own_thenI OW10.out hb15)
            replace A17 := Lib.hid (A17.out.then_ hb15)
            replace BV := Lib.hid (below_then BV.out hb15)
            clear own15 hb15 hg15 hg15l A14
            refine lex_take (i := 16) (v := ?_) rfl (by kernel_rfl) (by kernel_rfl) (by kernel_rfl) (fun _ _ _ h => h) (by rfl) ?_ (by assumption) ?_
            rotate_left
            · (intro w hSw; (try dsimp only at hSw); go_simp; try with_reducible rfl)
            try simp only [Act.put, List.setIfInBounds_toArray, List.set_cons_zero, List.set_cons_succ]
            have hv10 := HV10.out
            subst hv10
            exact hj Z17 g10 cap10 g15 cap15 v6 Z9 Z14 V6 ⟨A17.out, OW10.out, OW15.out, ne17_10.out, ne17_15.out, BV.out, hlt17⟩
    · intro Z17 g10 cap10 g15 cap15 v6 Z9 Z14 V6 ⟨a17, o10, o15, ne1, ne2, bv, hlt17⟩
      have A17 := Lib.hid a17; have OW10 := Lib.hid o10; have OW15 := Lib.hid o15; have ne17_10 := Lib.hid ne1; have ne17_15 := Lib.hid ne2; have BV := Lib.hid bv
      clear a17 o10 o15 ne1 ne2 bv
      have z5 := A17.out
      have y0 := z5.cell 0; have y1 := z5.cell 1; have y2 := z5.cell 2; have y3 := z5.cell 3; simp at y0 y1 y2 y3
      have fz0 := z5.frozen 0; have fz1 := z5.frozen 1; have fz2 := z5.frozen 2; have fz3 := z5.frozen 3
      have hly := z5.lt
      refine lex_step (i := 18) rfl (by kernel_rfl) (by rfl) (fun Kx hKx => ?_)
      go_simp
      try go_wp2_with fail
      refine hKx.out _ _ ?_ (fun hHeld => ?_)
      · (try dsimp only); exact KK.out _ (below_set4 BV.out (p := Z17) hlt17 _ _ _ _)
      clear hKx Kx
      try simp only [Act.put, List.setIfInBounds_toArray, List.set_cons_zero, List.set_cons_succ]
      refine wpAnyH_done (by kernel_rfl) ?_ _
      have REL := Lib.hid (ext_rel ms ss st HI.out HIS.out HLM.out HLS.out A17.out OW10.out OW15.out ne17_10.out ne17_15.out BV.out hlt17 (s := s) (f := f) rfl)
      clear z5 hly fz0 fz1 fz2 fz3 y0 y1 y2 y3 A17 OW10 OW15 BV
      go_wp2_with fail
      go_meet
      case rel => exact ⟨Z17, g10, cap10, g15, cap15, rfl, REL.out⟩
  case rest =>
    obtain ⟨Z, g1, d1, g2, d2, rfl, hat, hi1, hi2, hbc, hZ, hg1, hg2⟩ := hcut
    have HG1 := Lib.hid hg1; have HG2 := Lib.hid hg2; clear hg1 hg2
    have hT2' : T ≤ w2.heap.size := Nat.le_of_lt T2.out.lt
    have HAT := Lib.hid hat; have HI1 := Lib.hid hi1; have HI2 := Lib.hid hi2; have HBC := Lib.hid hbc
    have r5 := R2.out.then_ hbc
    have hRl5 := r5.lt; have hZl5 := hat.lt
    have x0 := hat.cell 0; have x1 := hat.cell 1; have x2 := hat.cell 2; have x3 := hat.cell 3; simp at x0 x1 x2 x3
    have R5 := Lib.hid r5
    clear z0 z1 z2 z3 y0 y1 y2 y3 fz0 fz1 fz2 fz3 hat hi1 hi2 hbc r5 KK
    go_wp2_with fail
    refine (observed_Check _ s f (some ⟨g1, 0, none⟩) (some ⟨g2, 0, none⟩) (n1 + 1) d1 (n2 + n3) d2 (ms ++ [(n3 : Int)]) (ss ++ st) hs f1 f2 HI1.out HI2.out).mono ?_
    have HO3 := Lib.hid (show extE s f ms ss st = tableErr s f (ms ++ [(n3 : Int)]) (ss ++ st) by rw [HO2.out, L3.out])
    rintro e w6 ⟨rfl, hb6⟩
    have r6 := R5.out.then_ hb6; have z6 := HAT.out.then_ hb6
    have B6 := Lib.hid (B2.out.trans ((HBC.out.mono hT2').trans (hb6.mono (by have := HBC.out.size; omega))))
    have y0 := r6.cell 0; have y1 := r6.cell 1; have y2 := r6.cell 2; have y3 := r6.cell 3; simp at y0 y1 y2 y3
    have fz0 := r6.frozen 0; have fz1 := r6.frozen 1; have fz2 := r6.frozen 2; have fz3 := r6.frozen 3
    have z0 := z6.cell 0; have z1 := z6.cell 1; have z2 := z6.cell 2; have z3 := z6.cell 3; simp at z0 z1 z2 z3
    have hRl6 := r6.lt
    have R6 := Lib.hid r6; have I1 := Lib.hid ((HI1.out.below hb6 (Nat.le_refl _)).more hb6.size); have I2 := Lib.hid ((HI2.out.below hb6 (Nat.le_refl _)).more hb6.size)
    have hR2 := R2.out.lt
    have hZ1 : T + 1 < Z := by omega
    have hg1 := HG1.out; have hg2 := HG2.out
    clear r6 z6 hb6 x0 x1 x2 x3
    by_cases hE2 : tableErr s f (ms ++ [(n3 : Int)]) (ss ++ st) = 0
    case neg =>
      have hq : (tableErr s f (ms ++ [(n3 : Int)]) (ss ++ st) != 0) = true := by simpa using hE2
      have HQ := Lib.hid hE2
      generalize tableErr s f (ms ++ [(n3 : Int)]) (ss ++ st) = E at hq HO3 HQ ⊢
      clear hE2 HO2
      go_wp2_with fail
      have BL := Lib.hid (below_set4 B6.out (p := T + 1) (by omega) (.string ⟨#[]⟩) (.int .i64 0) (.slice none 0 0) (.slice none 0 0))
      have zz := R6.out.store4 (.string ⟨#[]⟩) (.int .i64 0) (.slice none 0 0) (.slice none 0 0)
      have e0 := zz.cell 0; have e1 := zz.cell 1; have e2 := zz.cell 2; have e3 := zz.cell 3; simp at e0 e1 e2 e3
      exact bodyPost_ret (v := .tuple #[tab0, .int .i64 E]) (by simp [results, Try.results11, go_sem, e0, e1, e2, e3]) rfl (ext_err HO3.out HQ.out rfl (by rw [← HTq.out]; exact BL.out))
    rw [hE2] at HO3 ⊢
    go_wp2_with fail
    have BL := Lib.hid (below_set4 B6.out (p := T + 1) (by omega) (.string s) (.int .i64 f) (.slice (some ⟨g1, 0, none⟩) (n1 + 1) d1) (.slice (some ⟨g2, 0, none⟩) (n2 + n3) d2))
    have zz := R6.out.store4 (.string s) (.int .i64 f) (.slice (some ⟨g1, 0, none⟩) (n1 + 1) d1) (.slice (some ⟨g2, 0, none⟩) (n2 + n3) d2)
    have e0 := zz.cell 0; have e1 := zz.cell 1; have e2 := zz.cell 2; have e3 := zz.cell 3; simp at e0 e1 e2 e3
    have J1 := ints_apart4 I1.out (p := T + 1) (by omega) (.string s) (.int .i64 f) (.slice (some ⟨g1, 0, none⟩) (n1 + 1) d1) (.slice (some ⟨g2, 0, none⟩) (n2 + n3) d2)
    have J2 := ints_apart4 I2.out (p := T + 1) (by omega) (.string s) (.int .i64 f) (.slice (some ⟨g1, 0, none⟩) (n1 + 1) d1) (.slice (some ⟨g2, 0, none⟩) (n2 + n3) d2)
    refine bodyPost_ret (v := .tuple #[tabV s f (some ⟨g1, 0, none⟩) (n1 + 1) d1 (some ⟨g2, 0, none⟩) (n2 + n3) d2, .int .i64 0]) (by simp [results, Try.results11, go_sem, e0, e1, e2, e3]) rfl ⟨by rw [← HTq.out]; exact BL.out, ?_⟩
    rw [HO3.out, if_neg (by simp)]
    exact ⟨_, _, _, _, _, _, rfl, by rw [L3.out]; exact J1, J2⟩
end Go.Proofs.Ytddiicljoekhmab
