/- Contract of page.widths; boxes of numbers. -/
import Derived.Test.YthpiiocncdpimaaDoorPly1
import Derived.Test.YthpiiocncdpimaaDoorPage6
import Derived.Test.YthpiiocncdpimaaDoorStore
import Derived.Test.YthpiiocncdpimaaDoorTail
import Derived.Laws.MakeOwn
namespace Go.Proofs.YthpiiocncdpimaaDoor
set_option linter.unusedVariables false
set_option linter.unusedSimpArgs false
set_option maxRecDepth 100000
open Go.RowKit Go.Shelf

/-- A box of n numbers of the call's own. -/
def NB (W : World) (b n : Nat) (l : Nat → Nat) : Prop := ∃ cs : Array Value, At W b (.cells cs 3) ∧ cs.size = n ∧ ∀ i, i < n → cs[i]? = some (.int .i64 (l i : Nat))
section
variable {W W' : World} {b n : Nat} {l : Nat → Nat}
theorem NB.lt (h : NB W b n l) : b < W.heap.size := by obtain ⟨cs, h1, _⟩ := h; exact h1.lt
theorem NB.then_ (h : NB W b n l) (k : Below W.heap.size W W') : NB W' b n l := by obtain ⟨cs, h1, h2⟩ := h; exact ⟨cs, h1.then_ k, h2⟩
theorem NB.alloc (h : NB W b n l) (o : Obj) : NB (W.alloc o) b n l := by obtain ⟨cs, h1, h2⟩ := h; exact ⟨cs, h1.alloc o, h2⟩
theorem NB.grown (h : NB W b n l) {row : Option Nat} (hg : W.grownBy W' row) (hne : some b ≠ row) : NB W' b n l := by obtain ⟨cs, h1, h2⟩ := h; exact ⟨cs, (hg.block b h1.lt hne).trans h1, h2⟩
theorem NB.cell (h : NB W b n l) {i : Nat} (hi : i < n) : W.cell? ⟨b, i, none⟩ = some (.int .i64 (l i : Nat)) := by obtain ⟨cs, h1, h2, h3⟩ := h; rw [h1.cell i]; exact h3 i hi
theorem NB.frozen (h : NB W b n l) (i : Nat) : W.frozen? ⟨b, i, none⟩ = false := by obtain ⟨cs, h1, _⟩ := h; exact h1.frozen i
theorem NB.apart (h : NB W b n l) {p : Addr} (hp : b ≠ p.block) (u : Value) : NB (W.setCell p u) b n l := by obtain ⟨cs, h1, h2⟩ := h; exact ⟨cs, h1.apart hp u, h2⟩
theorem NB.store (h : NB W b n l) {i : Nat} (hi : i < n) (x : Nat) : NB (W.setCell ⟨b, i, none⟩ (.int .i64 (x : Nat))) b n (fun k => if k = i then x else l k) := by
  obtain ⟨cs, h1, h2, h3⟩ := h
  refine ⟨_, h1.store i _, by simpa using h2, fun k hk => ?_⟩
  rw [Array.getElem?_setIfInBounds]
  by_cases hki : i = k
  · subst hki; rw [if_pos rfl, if_pos (by omega)]; simp
  · rw [if_neg hki]; simp only [if_neg (fun e : k = i => hki e.symm)]; exact h3 k hk
theorem NB.ext (h : NB W b n l) {l' : Nat → Nat} (e : ∀ i, i < n → l' i = l i) : NB W b n l' := by obtain ⟨cs, h1, h2, h3⟩ := h; exact ⟨cs, h1, h2, fun i hi => by rw [e i hi]; exact h3 i hi⟩
theorem NB.ints (h : NB W b n l) (hn : n ≤ 1000000) (hl : ∀ i, i < n → l i ≤ 1000000) : Ints W W.heap.size (some ⟨b, 0, none⟩) n (nz ((List.range n).map l)) := by
  refine ⟨by simp, by omega, fun x hx => ?_, fun _ => ⟨b, 0, rfl, h.lt, fun i hi => ?_⟩⟩
  · simp at hx
    obtain ⟨a, ha, rfl⟩ := hx
    have := hl a ha
    exact ⟨by omega, by omega⟩
  · rw [Nat.zero_add, h.cell hi]; simp [List.getD_eq_getElem?_getD, hi]
end
theorem infoNum : (Tryd.prog.info? 3).map (fun i => (i.zero, i.size, i.bytes)) = some (some (.int .i64 0), 1, 8) := by kernel_rfl
theorem make_nums (n : Nat) (hn : n ≤ 1000) (W : World) : (Instr.makeSlice 61 (.int .i64 (n : Int)) (.int .i64 (n : Int))).run Tryd.prog W = .ok (.slice (some ⟨W.heap.size, 0, none⟩) n n) (W.alloc (.cells (madeCells (Value.int .i64 0).cells n) 3)) := by
  obtain ⟨i0, hi, hz0, hz1, hz2⟩ := info_parts infoNum
  have := run_makeSlice W 61 3 i0 (.int .i64 0) Tryd.underlying61 hi hz0 .i64 .i64 (n : Int) (n : Int) (by omega) (by omega) (by rw [hz1]; simp; omega) (by rw [hz2]; omega) (by omega)
  rw [hz1, Nat.mul_one] at this
  simpa using this
theorem made_num (n i : Nat) (h : i < n) : (madeCells (Value.int .i64 0).cells n)[i]? = some (.int .i64 ((0 : Nat) : Int)) := by
  unfold madeCells
  rw [Array.getElem?_map, Array.getElem?_range, if_pos h]
  show some ((#[Value.int .i64 0] : Array Value)[i % 1]!) = _
  rw [Nat.mod_one]; rfl
theorem nb_made (W : World) (n : Nat) : NB (W.alloc (.cells (madeCells (Value.int .i64 0).cells n) 3)) W.heap.size n (fun _ => 0) := ⟨_, At.new W _, size_madeCells _ _, fun i hi => made_num n i hi⟩
/-- What a table in order bounds. -/
structure TOk (hd : List ByteArray) (rs : List (List ByteArray)) : Prop where
  lo : 1 ≤ hd.length
  hi : hd.length ≤ 12
  few : rs.length ≤ 400
  len : ∀ r ∈ hd :: rs, r.length = hd.length
  size : ∀ r ∈ hd :: rs, ∀ s ∈ r, s.size ≤ 120
theorem firstErr_mem : ∀ {l : List ByteArray}, firstErr l = 0 → ∀ s ∈ l, cellErr s = 0
  | x :: l, h, s, hs => by
    rw [firstErr] at h
    by_cases hx : cellErr x ≠ 0
    · rw [if_pos hx] at h; exact absurd h hx
    · rw [if_neg hx] at h
      rcases List.mem_cons.1 hs with rfl | hs
      · simpa using hx
      · exact firstErr_mem h s hs
theorem cellErr_size {s : ByteArray} (h : cellErr s = 0) : s.size ≤ 120 := by
  unfold cellErr at h
  split at h
  · cases h
  · omega
theorem tok_of {hd : List ByteArray} {rs : List (List ByteArray)} (h : tblErr 7 hd rs = 0) : TOk hd rs := by
  unfold tblErr at h
  split at h
  · cases h
  rename_i h1
  split at h
  · cases h
  rename_i h2
  split at h
  · rename_i h3; exact absurd h h3
  rename_i h3
  have h4 : firstErr (hd ++ rs.flatten) = 0 := by simpa using h3
  have hm := firstErr_mem h4
  refine ⟨by omega, by omega, by omega, fun r hr => ?_, fun r hr s hs => ?_⟩
  · rcases List.mem_cons.1 hr with rfl | hr
    · rfl
    · have : rs.any (fun r => decide (r.length ≠ hd.length)) = false := by simpa using h2
      rw [List.any_eq_false] at this
      have := this r hr
      simpa using this
  · refine cellErr_size (hm s ?_)
    rcases List.mem_cons.1 hr with rfl | hr
    · simp [hs]
    · exact List.mem_append_right _ (List.mem_flatten.2 ⟨r, hr, hs⟩)
theorem TOk.cell {hd : List ByteArray} {rs : List (List ByteArray)} (h : TOk hd rs) {r : List ByteArray} (hr : r ∈ hd :: rs) (j : Nat) : (cellO r j).size ≤ 120 := by
  unfold cellO
  rw [List.getD_eq_getElem?_getD]
  cases e : r[j]? with
  | none => decide
  | some s => exact h.size r hr s (List.mem_of_getElem? e)
theorem rcN_le (s : ByteArray) : rcN s ≤ s.size := Lib.runeCount_le s
theorem TOk.width {hd : List ByteArray} {rs : List (List ByteArray)} (h : TOk hd rs) (j : Nat) : maxW (hd :: rs) j ≤ 120 := maxW_le fun r hr => Nat.le_trans (rcN_le _) (h.cell hr j)
theorem TOk.wds {hd : List ByteArray} {rs : List (List ByteArray)} (h : TOk hd rs) (j : Nat) : (wdsO hd.length (hd :: rs)).getD j 0 ≤ 120 := by
  by_cases hj : j < hd.length
  · rw [wdsO_get _ _ _ hj]; exact h.width j
  · unfold wdsO; simp [List.getD_eq_getElem?_getD, hj]
/-- A row ahead of the rows, in a list of the call's own, whose rows lie as they lay. -/
theorem rows_lies {w w4 : World} {B base n1 c1 n2 : Nat} {a1 : Option Addr} {hd : List ByteArray} {rs : List (List ByteArray)} {news : List Value} (k1 : n1 ≤ c1) (m1 : c1 ≤ 9223372036854775807)
    (h1 : Strs w B a1 n1 hd) (hl : news.length = n2) (hr : rs.length = n2) (hn : ∀ j, j < n2 → ∃ ai ci, (rs.getD j []).length ≤ ci ∧ ci ≤ 9223372036854775807 ∧ news[j]? = some (.slice ai (rs.getD j []).length ci) ∧ Strs w B ai (rs.getD j []).length (rs.getD j []))
    {g cap : Nat} (own : w4.ownsRow base 22 1 (.slice (some ⟨g, 0, none⟩) (1 + n2) cap) (1 + n2) ([.slice a1 n1 c1] ++ news)) :
    1 + n2 ≤ cap ∧ cap ≤ 9223372036854775807 ∧ base ≤ g ∧ ∃ cur : Array Value, At w4 g (.cells cur 22) ∧ ∀ j, j < 1 + n2 → ∃ ai ci, ((hd :: rs).getD j []).length ≤ ci ∧ ci ≤ 9223372036854775807 ∧ cur[j]? = some (.slice ai ((hd :: rs).getD j []).length ci) ∧ Strs w B ai ((hd :: rs).getD j []).length ((hd :: rs).getD j []) := by
  rcases own.2 with ⟨_, hz⟩ | ⟨g', cap', cur, hv, hg, hcur, hnc, hcm, hcs, htake⟩
  · omega
  injection hv with e1 e2 e3
  injection e1 with e1
  injection e1 with e1
  subst e1 e3
  unfold maxLen at hcm
  have ht : cur.toList.take (1 + n2) = [.slice a1 n1 c1] ++ news := by simpa using htake
  have hget : ∀ j u, j < 1 + n2 → ([.slice a1 n1 c1] ++ news)[j]? = some u → cur[j]? = some u := by
    intro j u hjn hj
    rw [← ht, List.getElem?_take, if_pos hjn, Array.getElem?_toList] at hj
    exact hj
  refine ⟨hnc, by omega, hg, cur, hcur, fun j hj => ?_⟩
  cases j with
  | zero =>
    have e : hd.length = n1 := h1.1
    exact ⟨a1, c1, by show hd.length ≤ c1; omega, m1, by show cur[0]? = some (.slice a1 hd.length c1); rw [e]; exact hget 0 _ hj rfl, by show Strs w B a1 hd.length hd; rw [e]; exact h1⟩
  | succ j =>
    obtain ⟨ai, ci, q1, q2, q3, q4⟩ := hn j (by omega)
    exact ⟨ai, ci, q1, q2, hget (j + 1) _ hj (by simpa using q3), q4⟩
theorem cells_of {w W : World} {B g n : Nat} {cur : Array Value} {RS : List (List ByteArray)} (hB : B = w.heap.size) (hg : At W g (.cells cur 22)) (hb : Below B w W) (h : ∀ j, j < n → ∃ ai ci, (RS.getD j []).length ≤ ci ∧ ci ≤ 9223372036854775807 ∧ cur[j]? = some (.slice ai (RS.getD j []).length ci) ∧ Strs w B ai (RS.getD j []).length (RS.getD j [])) {j : Nat} (hj : j < n) :
    ∃ ai ci, (RS.getD j []).length ≤ ci ∧ ci ≤ 9223372036854775807 ∧ W.cell? ⟨g, j, none⟩ = some (.slice ai (RS.getD j []).length ci) ∧ Strs w B ai (RS.getD j []).length (RS.getD j []) := by
  obtain ⟨ai, ci, q1, q2, q3, q4⟩ := h j hj
  exact ⟨ai, ci, q1, q2, by rw [hg.cell j]; exact q3, q4⟩
theorem str_at {w : World} {B : Nat} {a : Option Addr} {n : Nat} {ss : List ByteArray} (h : Strs w B a n ss) {k : Nat} (hk : k < n) : ∃ b off, a = some ⟨b, off, none⟩ ∧ b < B ∧ w.cell? ⟨b, off + k, none⟩ = some (.string (cellO ss k)) := by
  obtain ⟨b, off, e, hb, hc⟩ := h.2.2.2 (by omega)
  exact ⟨b, off, e, hb, hc k hk⟩
set_option maxHeartbeats 16000000 in
theorem page_widths (w : World) (a1 a2 : Option Addr) (n1 c1 n2 c2 : Nat) (hd : List ByteArray) (rs : List (List ByteArray)) (k1 : n1 ≤ c1) (m1 : c1 ≤ 9223372036854775807) (k2 : n2 ≤ c2) (m2 : c2 ≤ 9223372036854775807)
    (h1 : Strs w w.heap.size a1 n1 hd) (h2 : RowsAt w w.heap.size a2 n2 rs) (ha2 : a2 = none → n2 = 0 ∧ c2 = 0) (tok : TOk hd rs) :
    Calls Tryd.prog 29 #[.agg #[.slice a1 n1 c1, .slice a2 n2 c2]] w fun e w' => ∃ b, e = .returned (.slice (some ⟨b, 0, none⟩) n1 n1) ∧ w.heap.size ≤ b ∧ Ints w' w'.heap.size (some ⟨b, 0, none⟩) n1 (nz (wdsO n1 (hd :: rs))) ∧ Below w.heap.size w w' := by
  have hl1 := h1.1
  have hl2 := h2.1
  have t1 := tok.lo; have t2 := tok.hi; have t3 := tok.few
  have i1 : 1 ≤ n1 := by omega
  have i2 : n1 ≤ 12 := by omega
  have i3 : n2 ≤ 400 := by omega
  have TOK := Lib.hid tok
  have H1 := Lib.hid h1; have H2 := Lib.hid h2; have HA2 := Lib.hid ha2
  have L1 := Lib.hid hl1; have L2 := Lib.hid hl2
  obtain ⟨T, hT⟩ : ∃ T, T = w.heap.size := ⟨_, rfl⟩
  have HT := Lib.hid hT
  clear h1 h2 ha2 tok hl1 hl2 t1 t2 t3
  obtain ⟨Z, hZ⟩ : ∃ Z : Obj, Z = .cells #[.slice a1 n1 c1, .slice a2 n2 c2] 25 := ⟨_, rfl⟩
  obtain ⟨Z2, hZ2⟩ : ∃ Z2 : Obj, Z2 = .cells (madeCells (Value.int .i64 0).cells n1) 3 := ⟨_, rfl⟩
  have hmk := fun W => make_nums n1 (by omega) W
  rw [← hZ2] at hmk
  have A0 := (At.newAt w Z T hT).alloc Z2
  have N0 : NB ((w.alloc Z).alloc Z2) (T + 1) n1 (fun _ => 0) := by rw [hZ2, hT]; have := nb_made (w.alloc Z) n1; rwa [World.size_alloc] at this
  have B0 := below_new (below_new (Below.refl w.heap.size w) Z) Z2
  have S0 : ((w.alloc Z).alloc Z2).heap.size = T + 2 := by rw [World.size_alloc, World.size_alloc, hT]
  rw [hZ] at A0 N0 B0 S0
  have HA0 := Lib.hid A0; have HN0 := Lib.hid N0; have HB0 := Lib.hid B0; have HS0 := Lib.hid S0
  clear A0 N0 B0 S0 hZ hZ2
  go_enter Tryd.func29, Tryd.ntmps29
  go_upto_region 2 with fail
  rw [← HT.out]
  generalize World.alloc (World.alloc w _) _ = W1 at HA0 HN0 HB0 HS0 ⊢
  have x0 := HA0.out.cell 0
  have x1 := HA0.out.cell 1
  simp at x0 x1
  have y1 := (HA0.out.alloc (.cells #[.slice a1 n1 c1] 22)).cell 1
  simp at y1
  obtain ⟨news, nl, nc, n1c, nr⟩ : ∃ news : List Value, news.length = n2 ∧ (∀ p, a2 = some p → ∀ j u, news[j]? = some u → W1.cell? (p.add j) = some u) ∧ (∀ u ∈ news, u.oneCell' = true) ∧ ∀ j, j < n2 → ∃ ai ci, (rs.getD j []).length ≤ ci ∧ ci ≤ 9223372036854775807 ∧ news[j]? = some (.slice ai (rs.getD j []).length ci) ∧ Strs w w.heap.size ai (rs.getD j []).length (rs.getD j []) := by
    cases a2 with
    | none =>
      have := HA2.out rfl
      exact ⟨[], by simp [this.1], (fun p e => nomatch e), (fun u hu => nomatch hu), fun j hj => by omega⟩
    | some p =>
      obtain ⟨news, q1, q2, q3, q4⟩ := rows_news H2.out
      refine ⟨news, q1, fun p' e => ?_, q3, q4⟩
      injection e with e
      subst e
      intro j u hj
      have c2 := q2 j u hj
      have hlt : (p.add j).block < w.heap.size := World.block_lt_of_cell? w _ c2
      rw [HB0.out.cell hlt, c2]
  have NC := Lib.hid nc; have N1 := Lib.hid n1c; have NR := Lib.hid nr; have NL := Lib.hid nl
  obtain ⟨i0, hi, hz0, hz1, hz2⟩ := info_parts infoSl
  have hzT : w.heap.size = T := HT.out.symm
  have HZT := Lib.hid hzT
  clear nc n1c nr nl hzT hmk hT
  go_wp2_with
    (at_builtin; refine wpList_append_rows rfl _ _ _ rfl (T + 2) 22 i0 _ 1 24 Tryd.underlying23 hi hz0 hz1 hz2 rfl (by omega) (.slice (some ⟨W1.heap.size, 0, none⟩) 1 1) 1 [.slice a1 n1 c1] (by rfl) (World.ownsRow_lit W1 #[.slice a1 n1 c1] 1 (by have := HS0.out; omega) (by decide) (by rfl)) (by omega) a2 n2 c2 news (by rfl) HA2.out (by rw [NL.out]; simp) (fun p e j u hj => ((World.grownBy_alloc W1 _ none).cell (NC.out p e j u hj) (by simp))) N1.out (by unfold maxLen; omega) (by omega) (by simp; have := HS0.out; omega) ?_; intro g4 cap4 w4 hown' hgrow)
  obtain ⟨p1, p2, hTg, cur, hcur, hrows⟩ := rows_lies (w := w) (B := w.heap.size) k1 m1 H1.out NL.out L2.out NR.out hown'
  have HB4 := Lib.hid ((below_new HB0.out (.cells #[.slice a1 n1 c1] 22)).grown hgrow (by simp; have := HT.out; have := HS0.out; omega) (fun b hb => by simp [Value.ownBlock] at hb; have := HT.out; have := HS0.out; omega))
  have HN4 := Lib.hid ((HN0.out.alloc (.cells #[.slice a1 n1 c1] 22)).grown hgrow (by simp [Value.ownBlock]; have := HS0.out; omega))
  have HCUR := Lib.hid hcur
  have HRW := Lib.hid hrows
  have HBT := Lib.hid (show w.heap.size ≤ T + 1 by have := HT.out; omega)
  have hg1 : g4 ≠ T + 1 := by omega
  have hrl : (hd :: rs).length = 1 + n2 := by have := L2.out; simp; omega
  have HRL := Lib.hid hrl
  clear hown' hgrow hcur hrows x0 x1 y1 hi hz0 hz1 hz2 NC N1 NR NL HA0 HN0 HB0 hrl
  go_loopw [5, 6, 7, 19] (fun r i s ix wr => ∃ k : Nat, k ≤ 1 + n2 ∧ ix = .int .i64 k ∧ (∃ V, V = r) ∧ (∃ V, V = i) ∧ (∃ V, V = s) ∧ NB wr (T + 1) n1 (maxW ((hd :: rs).take k)) ∧ At wr g4 (.cells cur 22) ∧ Below w.heap.size w wr) (fun _ _ _ ix _ => 1 + n2 - (intOf ix).toNat)
  case atStart => exact ⟨0, by omega, rfl, ⟨_, rfl⟩, ⟨_, rfl⟩, ⟨_, rfl⟩, HN4.out.ext (fun i _ => rfl), HCUR.out, HB4.out⟩
  case round =>
    obtain ⟨k, hk, rfl, ⟨V5, rfl⟩, ⟨V6, rfl⟩, ⟨V7, rfl⟩, hnb, hat, hb⟩ := hrel
    have HNB := Lib.hid hnb; have HAT := Lib.hid hat; have HB := Lib.hid hb
    by_cases hlt : k < 1 + n2
    · obtain ⟨ai, ci, q1, q2, q3, q4⟩ := cells_of (w := w) (n := 1 + n2) rfl hat hb HRW.out hlt
      obtain ⟨rw_, hrw⟩ : ∃ r, r = (hd :: rs).getD k [] := ⟨_, rfl⟩
      have hmem : rw_ ∈ hd :: rs := by rw [hrw, List.getD_eq_getElem?_getD, List.getElem?_eq_getElem (by rw [HRL.out]; exact hlt)]; exact List.getElem_mem _
      have hlen : rw_.length = n1 := by rw [TOK.out.len _ hmem]; exact L1.out
      rw [← hrw, hlen] at q1 q3
      rw [← hrw, hlen] at q4
      have htk : (hd :: rs).take (k + 1) = (hd :: rs).take k ++ [rw_] := by
        rw [List.take_add_one, List.getElem?_eq_getElem (by rw [HRL.out]; exact hlt), hrw, List.getD_eq_getElem?_getD, List.getElem?_eq_getElem (by rw [HRL.out]; exact hlt)]; rfl
      have HTK := Lib.hid (fun j => show maxW ((hd :: rs).take (k + 1)) j = max (maxW ((hd :: rs).take k) j) (rcN (cellO rw_ j)) by rw [htk, maxW_snoc])
      have HMX := Lib.hid (show ∀ j, maxW ((hd :: rs).take k) j ≤ 120 from fun j => maxW_le fun r hr => Nat.le_trans (rcN_le _) (TOK.out.cell (List.mem_of_mem_take hr) j))
      have HCZ := Lib.hid (TOK.out.cell hmem)
      have hgl : g4 < wr.heap.size := hat.lt
      have HQ4 := Lib.hid q4
      obtain ⟨M, hM⟩ : ∃ M : Nat → Nat, M = maxW ((hd :: rs).take k) := ⟨_, rfl⟩
      rw [← hM] at HNB HTK HMX
      clear hnb hat hb q4 hrw hmem hlen htk hM
      go_upto_region 6 with fail
      go_loopw [6, 7, 25] (fun i s ix wx => ∃ t : Nat, t ≤ n1 ∧ ix = .int .i64 t ∧ (∃ V, V = i) ∧ (∃ V, V = s) ∧ NB wx (T + 1) n1 (fun j => if j < t then max (M j) (rcN (cellO rw_ j)) else M j) ∧ At wx g4 (.cells cur 22) ∧ Below w.heap.size w wx) (fun _ _ ix _ => n1 - (intOf ix).toNat)
      case atStart => exact ⟨0, by omega, rfl, ⟨_, rfl⟩, ⟨_, rfl⟩, HNB.out.ext (fun j _ => by simp), HAT.out, HB.out⟩
      case round =>
        obtain ⟨t, ht, rfl, ⟨W6, rfl⟩, ⟨W7, rfl⟩, hnb, hat, hb⟩ := hrel
        have HNX := Lib.hid hnb; have HAX := Lib.hid hat; have HBX := Lib.hid hb
        by_cases htl : t < n1
        · obtain ⟨bs, os, rfl, hbs, x3⟩ := str_at (HQ4.out.below hb (Nat.le_refl _)) htl
          obtain ⟨s0, hs0⟩ : ∃ s, s = cellO rw_ t := ⟨_, rfl⟩
          rw [← hs0] at x3
          have CRC := Lib.hid (fun W => lib_RuneCount s0 W (by rw [hs0]; have := HCZ.out t; omega))
          have hc0 := hnb.cell htl
          simp only [Nat.lt_irrefl, if_false] at hc0
          have hm1 : M t ≤ 120 := HMX.out t
          have hr1 : rcN s0 ≤ 120 := by rw [hs0]; exact Nat.le_trans (rcN_le _) (HCZ.out t)
          have HXT := Lib.hid (show max (M t) (rcN s0) = max (M t) (rcN (cellO rw_ t)) by rw [hs0])
          obtain ⟨m0, hm0⟩ : ∃ m, m = M t := ⟨_, rfl⟩
          obtain ⟨r0, hr0⟩ : ∃ r, r = rcN s0 := ⟨_, rfl⟩
          obtain ⟨X0, hX0⟩ : ∃ X, X = max m0 r0 := ⟨_, rfl⟩
          have hmx : max (m0 : Int) (r0 : Int) = (X0 : Int) := by omega
          have HX0 := Lib.hid (show X0 = max (M t) (rcN (cellO rw_ t)) by rw [hX0, hm0, hr0]; exact HXT.out)
          rw [← hr0] at CRC
          rw [← hm0] at hc0
          have HC0 := Lib.hid hc0
          have HLX := Lib.hid hnb.lt
          clear hnb hat hb hs0 hm0 hr0 hX0 HXT hc0
          go_upto_region 8 with fail
          (refine region_class_tail 10 (Below wr.heap.size wr) (by kernel_rfl) (by kernel_rfl) ((Below.refl _ _).drew) ?_; simp only [List.take_succ_cons, List.take_zero, List.drop_succ_cons, List.drop_zero]; repeat ((first | (refine class_take ?_ (by rfl) ?_ ?_; rotate_left; focus (intro wq hq; ((have x0 : wq.cell? ⟨T + 1, t, none⟩ = some (.int .i64 (m0 : Int)) := (hq.cell (p := ⟨T + 1, t, none⟩) HLX.out).trans HC0.out; have x1 : T + 1 < wq.heap.size := Nat.lt_of_lt_of_le HLX.out hq.size)); go_simp; first | done | with_reducible rfl | ((go_at_call 37; (with_reducible refine (CRC.out _).mono ?_); rintro e w' ⟨rfl, hb⟩; refine ⟨?_, below_then hq hb⟩; with_reducible rfl)))) | refine class_skip (by rfl) ?_); try simp only [Act.put, List.setIfInBounds_toArray, List.set_cons_zero, List.set_cons_succ]))
          refine wpQuiet_nil ?_
          intro W8 h8
          have n8 := HNX.out.then_ h8
          have y0 := n8.frozen t; have y1 := n8.lt; have y2 := n8.cell htl
          have N9 := Lib.hid ((n8.store htl X0).ext (l' := fun j => if j < t + 1 then max (M j) (rcN (cellO rw_ j)) else M j) (fun j _ => by
            by_cases hj : j = t
            · subst hj; simp [HX0.out]
            · simp only [if_neg hj]
              by_cases hj2 : j < t
              · rw [if_pos hj2, if_pos (by omega)]
              · rw [if_neg hj2, if_neg (by omega)]))
          have A9 := Lib.hid ((HAX.out.then_ h8).apart (p := ⟨T + 1, t, none⟩) hg1 (.int .i64 (X0 : Nat)))
          have B9 := Lib.hid (below_set (below_then HBX.out h8) (p := ⟨T + 1, t, none⟩) HBT.out (.int .i64 (X0 : Nat)))
          clear n8
          go_wp2_with fail
          go_roundw
          case rel => exact ⟨t + 1, by omega, by go_num, ⟨_, rfl⟩, ⟨_, rfl⟩, N9.out, A9.out, B9.out⟩
          case measure => simp [intOf]; omega
        · obtain rfl : t = n1 := by omega
          have N9 := Lib.hid (hnb.ext (l' := maxW ((hd :: rs).take (k + 1))) (fun j hj => by rw [HTK.out j, if_pos hj]))
          clear hnb hat hb
          go_wp2_with fail
          go_roundw
          case rel => exact ⟨k + 1, by omega, by go_num, ⟨_, rfl⟩, ⟨_, rfl⟩, ⟨_, rfl⟩, N9.out, HAX.out, HBX.out⟩
          case measure => simp [intOf]; omega
    · obtain rfl : k = 1 + n2 := by omega
      rw [List.take_of_length_le (by rw [HRL.out]; exact Nat.le_refl _)] at hnb
      have N9 := Lib.hid (hnb.ints (by omega) (fun i _ => Nat.le_trans (TOK.out.width i) (by omega)))
      clear hnb hat hlt
      go_wp2_with fail
      go_ret
      exact ⟨T + 1, rfl, HBT.out, N9.out, hb⟩
end Go.Proofs.YthpiiocncdpimaaDoor
