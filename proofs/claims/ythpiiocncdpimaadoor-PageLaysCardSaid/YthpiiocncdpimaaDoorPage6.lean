/- Contract of page.Check. -/
import Derived.Test.YthpiiocncdpimaaDoorPage1
import Derived.Test.YthpiiocncdpimaaDoorPage4
import Derived.Test.YthpiiocncdpimaaDoorPage5
import Derived.Test.YthpiiocncdpimaaDoorStrs
import Derived.Test.YthpiiocncdpimaaDoorLayIn
import Derived.Laws.AppendOwnNone
namespace Go.Proofs.YthpiiocncdpimaaDoor
set_option linter.unusedVariables false
set_option maxRecDepth 100000
open Go.RowKit Go.Shelf

theorem infoSl : (Tryd.prog.info? 22).map (fun i => (i.zero, i.size, i.bytes)) = some (some (.slice none 0 0), 1, 24) := by kernel_rfl
/-- append of a list of any kind to a row of the call's own that is not empty, as a step of a region. -/
theorem wp_append_rows {P : Program} {o : Oper} {a : Act} {w : World} {K : Act → World → Prop} {Q : Exit → Act → World → Prop} (s x : Operand) (t : TypeId)
    (ho : o.op = .call { callee := .builtin .append, args := #[s, x], argTypes := #[t, t] })
    (base : Nat) (e : TypeId) (i : TypeInfo) (z : Value) (size bytes : Nat) (ht : P.underlying t = some (.slice e)) (hi : P.info? e = some i) (hz : i.zero = some z)
    (hsize : i.size = size) (hby : i.bytes = bytes) (hzs : z.cells.size = size) (hsz : 0 < size)
    (v : Value) (n : Nat) (xs : List Value) (hs : a.eval s = v) (hown : w.ownsRow base e size v n xs) (hn : 0 < n)
    (ad : Option Addr) (m c : Nat) (news : List Value) (hx : a.eval x = .slice ad m c) (hnil : ad = none → m = 0 ∧ c = 0) (hl : news.length = m * size) (hnews : ∀ p, ad = some p → ∀ j u, news[j]? = some u → w.cell? (p.add j) = some u) (h1 : ∀ u ∈ news, u.oneCell' = true)
    (h63 : n + m ≤ maxLen) (hbytes : (n + m) * bytes ≤ 140737488355328) (hbase : base ≤ w.heap.size)
    (h : ∀ g cap w', w'.ownsRow base e size (.slice (some ⟨g, 0, none⟩) (n + m) cap) (n + m) (xs ++ news) → w.grownBy w' v.ownBlock → K (a.put o.dst (.slice (some ⟨g, 0, none⟩) (n + m) cap)) w') : o.wp P a w K Q := by
  have fin : ∀ v' w', w'.ownsRow base e size v' (n + m) (xs ++ news) → w.grownBy w' v.ownBlock → K (a.put o.dst v') w' := by
    intro v' w' q1 q2
    rcases q1.2 with ⟨_, hz⟩ | ⟨g, cap, cur, rfl, _⟩
    · omega
    · exact h g cap w' q1 q2
  cases ad with
  | some p => exact wp_append_own w s x t ho base e i z size bytes ht hi hz hsize hby hzs hsz v n xs hs hown p m c news hx hl (hnews p rfl) h1 h63 hbytes hbase fun v' w' q1 q2 _ => fin v' w' q1 q2
  | none =>
    obtain ⟨rfl, rfl⟩ := hnil rfl
    have h0 : news = [] := List.length_eq_zero_iff.1 (by rw [hl]; simp)
    subst h0
    have hrun := run_append_owned_none (P := P) (w := w) base t o.type e i size ht hi v n xs hown
    unfold Oper.wp
    simp [execOp, ho, resolve, invoke, builtin, hs, hx, hrun, Result.andThen]
    exact fin v w (by simpa using hown) ⟨rfl, rfl, rfl, Nat.le_refl _, fun _ _ _ => rfl⟩
theorem wpList_append_rows {P : Program} {w : World} {ops : Array Oper} {rest : List Oper} {o : Oper} {a : Act} {Q : Exit → Act → World → Prop} (hgd : o.guard = none) (s x : Operand) (t : TypeId)
    (ho : o.op = .call { callee := .builtin .append, args := #[s, x], argTypes := #[t, t] })
    (base : Nat) (e : TypeId) (i : TypeInfo) (z : Value) (size bytes : Nat) (ht : P.underlying t = some (.slice e)) (hi : P.info? e = some i) (hz : i.zero = some z)
    (hsize : i.size = size) (hby : i.bytes = bytes) (hzs : z.cells.size = size) (hsz : 0 < size)
    (v : Value) (n : Nat) (xs : List Value) (hs : a.eval s = v) (hown : w.ownsRow base e size v n xs) (hn : 0 < n)
    (ad : Option Addr) (m c : Nat) (news : List Value) (hx : a.eval x = .slice ad m c) (hnil : ad = none → m = 0 ∧ c = 0) (hl : news.length = m * size) (hnews : ∀ p, ad = some p → ∀ j u, news[j]? = some u → w.cell? (p.add j) = some u) (h1 : ∀ u ∈ news, u.oneCell' = true)
    (h63 : n + m ≤ maxLen) (hbytes : (n + m) * bytes ≤ 140737488355328) (hbase : base ≤ w.heap.size)
    (h : ∀ g cap w', w'.ownsRow base e size (.slice (some ⟨g, 0, none⟩) (n + m) cap) (n + m) (xs ++ news) → w.grownBy w' v.ownBlock → wpList P ops Q rest (a.put o.dst (.slice (some ⟨g, 0, none⟩) (n + m) cap)) w') : wpList P ops Q (o :: rest) a w :=
  wpList_plain hgd fun _ hK => wp_append_rows s x t ho base e i z size bytes ht hi hz hsize hby hzs hsz v n xs hs hown hn ad m c news hx hnil hl hnews h1 h63 hbytes hbase fun g cap w' h2 h3 => hK _ _ (h g cap w' h2 h3)
/-- The cells of a list of rows. -/
theorem rows_news {w : World} {B : Nat} {ad : Addr} {n : Nat} {rs : List (List ByteArray)} (h : RowsAt w B (some ad) n rs) :
    ∃ news : List Value, news.length = n ∧ (∀ j u, news[j]? = some u → w.cell? (ad.add j) = some u) ∧ (∀ u ∈ news, u.oneCell' = true) ∧ ∀ j, j < n → ∃ ai ci, (rs.getD j []).length ≤ ci ∧ ci ≤ 9223372036854775807 ∧ news[j]? = some (.slice ai (rs.getD j []).length ci) ∧ Strs w B ai (rs.getD j []).length (rs.getD j []) := by
  by_cases h0 : n = 0
  · exact ⟨[], by simp [h0], fun j u e => by simp at e, (fun u hu => nomatch hu), fun j hj => by omega⟩
  obtain ⟨b, off, e, hlt, hc⟩ := h.2.2 (by omega)
  injection e with e
  subst e
  refine ⟨(List.range n).map fun j => (w.cell? ⟨b, off + j, none⟩).getD (.int .i64 0), by simp, fun j u hj => ?_, fun u hu => ?_, fun j hj => ?_⟩
  · have hjn : j < n := by have := (List.getElem?_eq_some_iff.1 hj).1; simpa using this
    obtain ⟨ai, ci, _, _, hcell, _⟩ := hc j hjn
    rw [Addr.add_lit]
    rw [List.getElem?_map, List.getElem?_range hjn, Option.map_some, hcell] at hj
    rw [hcell]; exact hj
  · obtain ⟨j, hj, rfl⟩ := List.mem_map.1 hu
    obtain ⟨ai, ci, _, _, hcell, _⟩ := hc j (List.mem_range.1 hj)
    rw [hcell]; rfl
  · obtain ⟨ai, ci, q1, q2, hcell, q3⟩ := hc j hj
    exact ⟨ai, ci, q1, q2, by simp [hj, hcell], q3⟩
/-- A row ahead of the rows, in a list of the call's own. -/
theorem rows_join {w w4 : World} {B n1 c1 n2 : Nat} {a1 : Option Addr} {hd : List ByteArray} {rs : List (List ByteArray)} {news : List Value} {v : Value} (k1 : n1 ≤ c1) (m1 : c1 ≤ 9223372036854775807)
    (h1 : Strs w B a1 n1 hd) (hl : news.length = n2) (hr : rs.length = n2) (hn : ∀ j, j < n2 → ∃ ai ci, (rs.getD j []).length ≤ ci ∧ ci ≤ 9223372036854775807 ∧ news[j]? = some (.slice ai (rs.getD j []).length ci) ∧ Strs w B ai (rs.getD j []).length (rs.getD j []))
    (hb : Below B w w4) (hB : B ≤ w4.heap.size) (own : w4.ownsRow B 22 1 v (1 + n2) ([.slice a1 n1 c1] ++ news)) :
    ∃ g c, v = .slice (some ⟨g, 0, none⟩) (1 + n2) c ∧ 1 + n2 ≤ c ∧ c ≤ 9223372036854775807 ∧ g < w4.heap.size ∧ RowsAt w4 w4.heap.size (some ⟨g, 0, none⟩) (1 + n2) (hd :: rs) := by
  rcases own.2 with ⟨_, hz⟩ | ⟨g, cap, cur, rfl, _, hcur, hnc, hcm, hcs, htake⟩
  · omega
  have hat : At w4 g (.cells cur 22) := hcur
  have ht : cur.toList.take (1 + n2) = [.slice a1 n1 c1] ++ news := by simpa using htake
  have hcell : ∀ j u, ([.slice a1 n1 c1] ++ news)[j]? = some u → w4.cell? ⟨g, 0 + j, none⟩ = some u := by
    intro j u hj
    have hjn : j < 1 + n2 := by have := (List.getElem?_eq_some_iff.1 hj).1; simpa [hl, Nat.add_comm] using this
    rw [← ht, List.getElem?_take, if_pos hjn, Array.getElem?_toList] at hj
    rw [hat.cell (0 + j), Nat.zero_add, hj]
  unfold maxLen at hcm
  refine ⟨g, cap, rfl, hnc, by omega, hat.lt, by simp [hr]; omega, by omega, fun _ => ⟨g, 0, rfl, hat.lt, fun i hi => ?_⟩⟩
  cases i with
  | zero =>
    have e : (hd :: rs).getD 0 [] = hd := rfl
    rw [e, h1.1]
    exact ⟨a1, c1, k1, m1, hcell 0 _ rfl, (h1.below hb (Nat.le_refl _)).of_le hB⟩
  | succ j =>
    obtain ⟨ai, ci, q1, q2, q3, q4⟩ := hn j (by omega)
    have e : (hd :: rs).getD (j + 1) [] = rs.getD j [] := by simp [List.getD_eq_getElem?_getD]
    rw [e]
    exact ⟨ai, ci, q1, q2, hcell (j + 1) _ (by simpa using q3), (q4.below hb (Nat.le_refl _)).of_le hB⟩
theorem contains_any (l : List ByteArray) (s : ByteArray) : Lib.containsS l s = l.any (fun u => decide (u = s)) := by
  rw [Bool.eq_iff_iff, Lib.containsS_iff]
  simp
theorem flat_drop {RS : List (List ByteArray)} {k : Nat} (h : k < RS.length) : (RS.drop k).flatten = RS.getD k [] ++ (RS.drop (k + 1)).flatten := by
  rw [List.drop_eq_getElem_cons h, List.flatten_cons, List.getD_eq_getElem?_getD, List.getElem?_eq_getElem h]; rfl
theorem first_drop {l m : List ByteArray} {q : Nat} (h : q < l.length) : firstErr (l.drop q ++ m) = if cellErr (l.getD q ByteArray.empty) ≠ 0 then cellErr (l.getD q ByteArray.empty) else firstErr (l.drop (q + 1) ++ m) := by
  rw [List.drop_eq_getElem_cons h, List.cons_append, firstErr, List.getD_eq_getElem?_getD, List.getElem?_eq_getElem h]; rfl
theorem any_drop {α : Type} {p : α → Bool} {l : List α} {k : Nat} {d : α} (h : k < l.length) : (l.drop k).any p = (p (l.getD k d) || (l.drop (k + 1)).any p) := by
  rw [List.drop_eq_getElem_cons h, List.any_cons, List.getD_eq_getElem?_getD, List.getElem?_eq_getElem h]; rfl
theorem head_drop {t : Int} {l : List ByteArray} {k : Nat} (h : k < l.length) : headErr t (l.take k) (l.drop k) = if (l.getD k ByteArray.empty).size = 0 then 8 else if (l.take k).any (fun u => decide (u = l.getD k ByteArray.empty)) = true then t else headErr t (l.take (k + 1)) (l.drop (k + 1)) := by
  have e : l.getD k ByteArray.empty = l[k] := by rw [List.getD_eq_getElem?_getD, List.getElem?_eq_getElem h]; rfl
  rw [List.drop_eq_getElem_cons h, headErr, e, List.take_add_one, List.getElem?_eq_getElem h]; rfl
set_option maxHeartbeats 8000000 in
theorem page_Check (w : World) (a1 a2 : Option Addr) (n1 c1 n2 c2 : Nat) (hd : List ByteArray) (rs : List (List ByteArray)) (hT : Lib.Utf8Tabs 0 1 w) (k1 : n1 ≤ c1) (m1 : c1 ≤ 9223372036854775807) (k2 : n2 ≤ c2) (m2 : c2 ≤ 9223372036854775807)
    (h1 : Strs w w.heap.size a1 n1 hd) (h2 : RowsAt w w.heap.size a2 n2 rs) (ha2 : a2 = none → n2 = 0 ∧ c2 = 0) :
    Calls Tryd.prog 27 #[.agg #[.slice a1 n1 c1, .slice a2 n2 c2]] w fun e w' => e = .returned (.int .i64 (tblErr 7 hd rs)) ∧ Below w.heap.size w w' := by
  have hl1 := h1.1
  have hl2 := h2.1
  by_cases g1 : n1 < 1
  · have hr : tblErr 7 hd rs = 2 := by unfold tblErr; rw [if_pos (.inl (by omega))]
    rw [hr]
    have d1 : (n1 : Int) < 1 := by omega
    clear hr h1 h2 ha2 hT hl1 hl2 g1
    go_enter Tryd.func27, Tryd.ntmps27
    go_wp2_with fail
    go_ret
    exact ⟨rfl, by (repeat' (first | exact Below.refl _ _ | assumption | refine Below.drew ?_ | refine below_drewN ?_ _ | refine below_new ?_ _ | refine below_set ?_ ?_ _ | refine below_then ?_ (by assumption) | refine below_drawn ?_ (by assumption) | exact Nat.le_refl _ | omega | (simp; done) | (simp; omega)))⟩
  have d1 : ¬ (n1 : Int) < 1 := by omega
  by_cases g2 : 12 < n1
  · have hr : tblErr 7 hd rs = 2 := by unfold tblErr; rw [if_pos (.inr (.inl (by omega)))]
    rw [hr]
    have d2 : (12 : Int) < n1 := by omega
    clear hr h1 h2 ha2 hT hl1 hl2 g1 g2
    go_enter Tryd.func27, Tryd.ntmps27
    go_wp2_with fail
    go_ret
    exact ⟨rfl, by (repeat' (first | exact Below.refl _ _ | assumption | refine Below.drew ?_ | refine below_drewN ?_ _ | refine below_new ?_ _ | refine below_set ?_ ?_ _ | refine below_then ?_ (by assumption) | refine below_drawn ?_ (by assumption) | exact Nat.le_refl _ | omega | (simp; done) | (simp; omega)))⟩
  have d2 : ¬ (12 : Int) < n1 := by omega
  by_cases g3 : 400 < n2
  · have hr : tblErr 7 hd rs = 2 := by unfold tblErr; rw [if_pos (.inr (.inr (by omega)))]
    rw [hr]
    have d3 : (400 : Int) < n2 := by omega
    clear hr h1 h2 ha2 hT hl1 hl2 g1 g2 g3
    go_enter Tryd.func27, Tryd.ntmps27
    go_wp2_with fail
    go_ret
    exact ⟨rfl, by (repeat' (first | exact Below.refl _ _ | assumption | refine Below.drew ?_ | refine below_drewN ?_ _ | refine below_new ?_ _ | refine below_set ?_ ?_ _ | refine below_then ?_ (by assumption) | refine below_drawn ?_ (by assumption) | exact Nat.le_refl _ | omega | (simp; done) | (simp; omega)))⟩
  have d3 : ¬ (400 : Int) < n2 := by omega
  obtain ⟨b1, off1, rfl, hb1, hc1⟩ := h1.2.2.2 (by omega)
  obtain ⟨R, hR⟩ : ∃ R, R = tblErr 7 hd rs := ⟨_, rfl⟩
  have hR2 : R = if rs.any (fun r => decide (r.length ≠ n1)) = true then 8 else if firstErr (hd ++ rs.flatten) ≠ 0 then firstErr (hd ++ rs.flatten) else headErr 7 [] hd := by
    rw [hR]; unfold tblErr; rw [if_neg (by omega), hl1]
  rw [← hR]
  obtain ⟨FE, hFE⟩ : ∃ FE, FE = firstErr (hd ++ rs.flatten) := ⟨_, rfl⟩
  rw [← hFE] at hR2
  have HFE := Lib.hid hFE
  have HR := Lib.hid hR2
  have HT := Lib.hid hT
  have H1 := Lib.hid h1
  have H2 := Lib.hid h2
  have C1 := Lib.hid hc1
  have HA := Lib.hid ha2
  have L1 := Lib.hid hl1; have L2 := Lib.hid hl2
  have i1 : n1 ≤ 12 := by omega
  have i2 : n2 ≤ 400 := by omega
  clear hR hR2 hFE hT h1 h2 hc1 ha2 hl1 hl2 g1 g2 g3
  obtain ⟨Z, hZ⟩ : ∃ Z : Obj, Z = .cells #[.slice (some ⟨b1, off1, none⟩) n1 c1, .slice a2 n2 c2] 25 := ⟨_, rfl⟩
  have hA0 : At (w.alloc Z) w.heap.size Z := At.new w Z
  have HA0 := Lib.hid hA0
  have HB0 := Lib.hid (below_new (Below.refl w.heap.size w) Z)
  have SZ : (w.alloc Z).heap.size = w.heap.size + 1 := World.size_alloc w Z
  rw [hZ] at HA0 HB0 SZ
  have HS := Lib.hid SZ
  clear hA0 hZ SZ
  go_enter Tryd.func27, Tryd.ntmps27
  go_wp2_with fail
  go_loopw [31] (fun i wr => ∃ k : Nat, k ≤ n2 ∧ i = .int .i64 k ∧ rs.any (fun r => decide (r.length ≠ n1)) = (rs.drop k).any (fun r => decide (r.length ≠ n1)) ∧ Below w.heap.size w wr ∧ At wr w.heap.size (.cells #[.slice (some ⟨b1, off1, none⟩) n1 c1, .slice a2 n2 c2] 25)) (fun i _ => n2 - (intOf i).toNat)
  case atStart => exact ⟨0, by omega, rfl, rfl, HB0.out, HA0.out⟩
  case round =>
    obtain ⟨k, hk, rfl, han, hb, hat⟩ := hrel
    have HB := Lib.hid hb; have HAT := Lib.hid hat; have HAN := Lib.hid han
    clear han
    by_cases hlt : k < n2
    · obtain ⟨b2, off2, e2, hb2, hc2⟩ := (H2.out.below hb (Nat.le_refl _)).2.2 (by omega)
      subst e2
      obtain ⟨ai, ci, q1, q2, q3, q4⟩ := hc2 k hlt
      have HST := Lib.hid (any_drop (p := fun r => decide (r.length ≠ n1)) (d := []) (show k < rs.length by rw [L2.out]; exact hlt))
      obtain ⟨L, hL⟩ : ∃ L, L = (rs.getD k []).length := ⟨_, rfl⟩
      rw [← hL] at q1 q3
      have HL := Lib.hid hL
      have x0 := hat.cell 0
      have x1 := hat.cell 1
      have hzw := hb.size
      have hbz : b2 < wr.heap.size := by omega
      clear hc2 q4 hL hb hat
      simp at x0 x1
      by_cases hLn : L = n1
      · have e1 : ((L : Int) == (n1 : Int)) = true := by simp [hLn]
        have e2 : ((L : Int) != (n1 : Int)) = false := by simp [hLn]
        have HNX := Lib.hid (show rs.any (fun r => decide (r.length ≠ n1)) = (rs.drop (k + 1)).any (fun r => decide (r.length ≠ n1)) by rw [HAN.out, HST.out, ← HL.out, hLn]; simp)
        clear hLn
        go_wp2_with fail
        go_roundw
        case rel => exact ⟨k + 1, by omega, rfl, HNX.out, by have := HB.out; (repeat' (first | exact Below.refl _ _ | assumption | refine Below.drew ?_ | refine below_drewN ?_ _ | refine below_new ?_ _ | refine below_set ?_ ?_ _ | refine below_then ?_ (by assumption) | refine below_drawn ?_ (by assumption) | exact Nat.le_refl _ | omega | (simp; done) | (simp; omega))), HAT.out⟩
        case measure => simp [intOf]; omega
      · have e1 : ((L : Int) == (n1 : Int)) = false := by simp; omega
        have e2 : ((L : Int) != (n1 : Int)) = true := by simp; omega
        have HRR := Lib.hid (show R = 8 by rw [HR.out, HAN.out, HST.out, ← HL.out, decide_eq_true hLn, Bool.true_or, if_pos rfl])
        clear hLn
        go_wp2_with fail
        go_ret
        exact ⟨by rw [HRR.out]; rfl, by have := HB.out; (repeat' (first | exact Below.refl _ _ | assumption | refine Below.drew ?_ | refine below_drewN ?_ _ | refine below_new ?_ _ | refine below_set ?_ ?_ _ | refine below_then ?_ (by assumption) | refine below_drawn ?_ (by assumption) | exact Nat.le_refl _ | omega | (simp; done) | (simp; omega)))⟩
    · obtain rfl : k = n2 := by omega
      have HRR := Lib.hid (show R = if FE ≠ 0 then FE else headErr 7 [] hd by
        rw [HR.out, HAN.out, List.drop_eq_nil_of_le (by rw [L2.out]; exact Nat.le_refl _)]; rfl)
      have x0 := hat.cell 0
      have x1 := hat.cell 1
      have hzw := hb.size
      have y1 := (hat.alloc (.cells #[.slice (some ⟨b1, off1, none⟩) n1 c1] 22)).cell 1
      have hbz : w.heap.size < wr.heap.size := hat.lt
      obtain ⟨news, nl, nc, n1c, nr⟩ : ∃ news : List Value, news.length = k ∧ (∀ p, a2 = some p → ∀ j u, news[j]? = some u → wr.cell? (p.add j) = some u) ∧ (∀ u ∈ news, u.oneCell' = true) ∧ ∀ j, j < k → ∃ ai ci, (rs.getD j []).length ≤ ci ∧ ci ≤ 9223372036854775807 ∧ news[j]? = some (.slice ai (rs.getD j []).length ci) ∧ Strs w w.heap.size ai (rs.getD j []).length (rs.getD j []) := by
        cases a2 with
        | none =>
          have := HA.out rfl
          exact ⟨[], by simp [this.1], (fun p e => nomatch e), (fun u hu => nomatch hu), fun j hj => by omega⟩
        | some p =>
          obtain ⟨news, q1, q2, q3, q4⟩ := rows_news (H2.out.below hb (Nat.le_refl _))
          obtain ⟨news', r1, r2, r3, r4⟩ := rows_news H2.out
          have he : news = news' := by
            refine List.ext_getElem? fun j => ?_
            by_cases hj : j < k
            · obtain ⟨ai, ci, _, _, s3, _⟩ := q4 j hj
              obtain ⟨ai', ci', _, _, s3', _⟩ := r4 j hj
              have c1 := q2 j _ s3
              have c2 := r2 j _ s3'
              have hlt : (p.add j).block < w.heap.size := World.block_lt_of_cell? w _ c2
              rw [hb.cell hlt, c2] at c1
              rw [s3, s3', c1]
            · rw [List.getElem?_eq_none (by omega), List.getElem?_eq_none (by omega)]
          subst he
          exact ⟨news, q1, fun p' e => by injection e with e; subst e; exact q2, q3, r4⟩
      have NC := Lib.hid nc; have N1 := Lib.hid n1c; have NR := Lib.hid nr; have NL := Lib.hid nl
      obtain ⟨i0, hi, hz0, hz1, hz2⟩ := info_parts infoSl
      clear hb hat hlt nc n1c nr nl
      simp at x0 x1 y1
      go_wp2_with
        (at_builtin; refine wpList_append_rows rfl _ _ _ rfl w.heap.size 22 i0 _ 1 24 Tryd.underlying23 hi hz0 hz1 hz2 rfl (by omega) (.slice (some ⟨wr.heap.size, 0, none⟩) 1 1) 1 [.slice (some ⟨b1, off1, none⟩) n1 c1] (by rfl) (World.ownsRow_lit wr #[.slice (some ⟨b1, off1, none⟩) n1 c1] 1 HB.out.size (by decide) (by rfl)) (by omega) a2 k c2 news (by rfl) HA.out (by rw [NL.out]; simp) (fun p e j u hj => ((World.grownBy_alloc wr _ none).cell (NC.out p e j u hj) (by simp))) N1.out (by unfold maxLen; omega) (by omega) (by simp; omega) ?_; intro g4 cap4 w4 hown' hgrow)
      obtain ⟨G, cp, hv, p1, p2, hG, hrow⟩ := rows_join (w := w) (B := w.heap.size) k1 m1 H1.out NL.out L2.out NR.out ((below_new HB.out (.cells #[.slice (some ⟨b1, off1, none⟩) n1 c1] 22)).grown hgrow (by simp; omega) (fun b hb => by simp [Value.ownBlock] at hb; omega)) (by have := hgrow.size; simp at this; omega) hown'
      injection hv with hv1 _ hv2
      injection hv1 with hv1
      injection hv1 with hv1
      subst hv1 hv2
      have HB4 := Lib.hid ((below_new HB.out (.cells #[.slice (some ⟨b1, off1, none⟩) n1 c1] 22)).grown hgrow (by simp; omega) (fun b hb => by simp [Value.ownBlock] at hb; omega))
      have HAT4 := Lib.hid (show At w4 w.heap.size _ from (hgrow.block w.heap.size (HAT.out.alloc _).lt (by simp [Value.ownBlock]; omega)).trans (HAT.out.alloc (.cells #[.slice (some ⟨b1, off1, none⟩) n1 c1] 22)))
      have HROW := Lib.hid hrow
      have HFE2 := Lib.hid (show FE = firstErr (((hd :: rs).drop 0).flatten) by rw [HFE.out]; rfl)
      have z4 := HB4.out.size
      clear hown' hgrow hrow x0 x1 y1 hbz hzw hi hz0 hz1 hz2 HAT HB NC N1 NR
      go_loopw [49] (fun i wr => ∃ q : Nat, q ≤ 1 + k ∧ i = .int .i64 q ∧ FE = firstErr (((hd :: rs).drop q).flatten) ∧ Below w4.heap.size w4 wr) (fun i _ => 1 + k - (intOf i).toNat)
      case atStart => exact ⟨0, by omega, rfl, HFE2.out, Below.refl _ _⟩
      case round =>
        clear HFE2
        obtain ⟨w5, hw5⟩ : ∃ w5, w5 = wr := ⟨_, rfl⟩
        subst hw5
        obtain ⟨q, hq, rfl, hfe, hb⟩ := hrel
        have HF := Lib.hid hfe; have HB := Lib.hid hb
        by_cases hlt : q < 1 + k
        · obtain ⟨bz, oz, e2, hz, hc2⟩ := (HROW.out.below hb (Nat.le_refl _)).2.2 (by omega)
          injection e2 with e2
          injection e2 with e3 e4
          subst e3 e4
          obtain ⟨ai, ci, q1, q2, q3, q4⟩ := hc2 q hlt
          have hRL : (hd :: rs).length = 1 + k := by simp [L2.out]; omega
          have HST := Lib.hid (flat_drop (RS := hd :: rs) (show q < (hd :: rs).length by omega))
          obtain ⟨rw_, hrw⟩ : ∃ r, r = (hd :: rs).getD q [] := ⟨_, rfl⟩
          rw [← hrw] at q1 q3 q4
          have HRW := Lib.hid hrw
          obtain ⟨L, hL⟩ : ∃ L, L = rw_.length := ⟨_, rfl⟩
          rw [← hL] at q1 q3 q4
          have HL := Lib.hid hL
          have hzw := hb.size
          rw [Nat.zero_add] at q3
          have hbz : g4 < w5.heap.size := by omega
          have HQ4 := Lib.hid q4
          clear hc2 q4 hL hb hrw hfe hz hRL
          have HF2 := Lib.hid (show FE = firstErr (rw_.drop 0 ++ ((hd :: rs).drop (q + 1)).flatten) by rw [HF.out, HST.out, ← HRW.out]; rfl)
          have HTR := Lib.hid (Utf8Tabs_below HT.out (below_then HB4.out HB.out))
          clear HST HF HRW
          go_wp2_with fail
          go_loopw [55] (fun j wr => ∃ t : Nat, t ≤ L ∧ j = .int .i64 t ∧ FE = firstErr (rw_.drop t ++ ((hd :: rs).drop (q + 1)).flatten) ∧ Below w5.heap.size w5 wr) (fun j _ => L - (intOf j).toNat)
          case atStart => exact ⟨0, by omega, rfl, HF2.out, Below.refl _ _⟩
          case round =>
            clear HF2
            obtain ⟨t, ht, rfl, hft, hbx⟩ := hrel
            have HFT := Lib.hid hft
            by_cases htl : t < L
            · have hsx := HQ4.out.below hbx HB.out.size
              have hzw5 := HB.out.size
              obtain ⟨bs, os, rfl, hbs, hcs⟩ := hsx.2.2.2 (by omega)
              have x3 := hcs t htl
              have HST := Lib.hid (first_drop (l := rw_) (m := ((hd :: rs).drop (q + 1)).flatten) (q := t) (by rw [← HL.out]; exact htl))
              obtain ⟨sx, hsx'⟩ : ∃ sx, sx = rw_.getD t ByteArray.empty := ⟨_, rfl⟩
              rw [← hsx'] at x3
              have hsz : sx.size ≤ 9223372036854775807 := hsx.2.2.1 _ (by rw [hsx', List.getD_eq_getElem?_getD, List.getElem?_eq_getElem (by rw [← HL.out]; exact htl)]; exact List.getElem_mem _)
              obtain ⟨c, hc⟩ : ∃ c, c = cellErr sx := ⟨_, rfl⟩
              have CC := Lib.hid (page_checkText sx wr hsz (Utf8Tabs_below HTR.out hbx))
              rw [← hc] at CC
              have HC := Lib.hid (show FE = if c ≠ 0 then c else firstErr (rw_.drop (t + 1) ++ ((hd :: rs).drop (q + 1)).flatten) by rw [HFT.out, HST.out, ← hsx', ← hc])
              have HBX := Lib.hid hbx
              have hzw := hbx.size
              have hbz : bs < wr.heap.size := by omega
              clear hsx hcs hsx' hsz hc hft hbx HST HFT
              by_cases hc0 : c = 0
              · have HC2 := Lib.hid (show FE = firstErr (rw_.drop (t + 1) ++ ((hd :: rs).drop (q + 1)).flatten) by rw [HC.out, if_neg (by simp [hc0])])
                subst hc0
                go_wp2_with (go_at_call 56; refine (CC.out).mono ?_; rintro e w1 ⟨rfl, hb2⟩)
                go_roundw
                case rel => exact ⟨t + 1, by omega, rfl, HC2.out, by have := HBX.out; (repeat' (first | exact Below.refl _ _ | assumption | refine Below.drew ?_ | refine below_drewN ?_ _ | refine below_new ?_ _ | refine below_set ?_ ?_ _ | refine below_then ?_ (by assumption) | refine below_drawn ?_ (by assumption) | exact Nat.le_refl _ | omega | (simp; done) | (simp; omega)))⟩
                case measure => simp [intOf]; omega
              · have e1 : (c == 0) = false := by simpa using hc0
                have e2 : (c != 0) = true := by simpa using hc0
                have HRC := Lib.hid (show R = c by rw [HRR.out, HC.out, if_pos hc0, if_pos hc0])
                clear hc0
                go_wp2_with (go_at_call 56; refine (CC.out).mono ?_; rintro e w1 ⟨rfl, hb2⟩)
                go_ret
                exact ⟨by rw [HRC.out]; rfl, by have := below_then HB4.out HB.out; have := below_then this HBX.out; (repeat' (first | exact Below.refl _ _ | assumption | refine Below.drew ?_ | refine below_drewN ?_ _ | refine below_new ?_ _ | refine below_set ?_ ?_ _ | refine below_then ?_ (by assumption) | refine below_drawn ?_ (by assumption) | exact Nat.le_refl _ | omega | (simp; done) | (simp; omega)))⟩
            · obtain rfl : t = L := by omega
              have HF3 := Lib.hid (show FE = firstErr (((hd :: rs).drop (q + 1)).flatten) by rw [HFT.out, List.drop_eq_nil_of_le (by rw [HL.out]; exact Nat.le_refl _)]; rfl)
              have HBX := Lib.hid hbx
              clear hft hbx HFT htl
              go_wp2_with fail
              go_roundw
              case rel => exact ⟨q + 1, by omega, rfl, HF3.out, by have := below_then HB.out HBX.out; (repeat' (first | exact Below.refl _ _ | assumption | refine Below.drew ?_ | refine below_drewN ?_ _ | refine below_new ?_ _ | refine below_set ?_ ?_ _ | refine below_then ?_ (by assumption) | refine below_drawn ?_ (by assumption) | exact Nat.le_refl _ | omega | (simp; done) | (simp; omega)))⟩
              case measure => simp [intOf]; omega
        · obtain rfl : q = 1 + k := by omega
          have HR3 := Lib.hid (show R = headErr 7 (hd.take 0) (hd.drop 0) by
            rw [HRR.out, HF.out, List.drop_eq_nil_of_le (by simp [L2.out]; omega)]; rfl)
          have hat := HAT4.out.below hb HAT4.out.lt
          have x0 := hat.cell 0
          have HATR := Lib.hid hat
          clear hfe hb hlt hat
          simp at x0
          go_wp2_with fail
          go_loopw [69] (fun i wr => ∃ q : Nat, q ≤ n1 ∧ i = .int .i64 q ∧ R = headErr 7 (hd.take q) (hd.drop q) ∧ Below w5.heap.size w5 wr) (fun i _ => n1 - (intOf i).toNat)
          case atStart => exact ⟨0, by omega, rfl, HR3.out, Below.refl _ _⟩
          case round =>
            clear HR3 x0
            obtain ⟨q, hq, rfl, hrr, hbx⟩ := hrel
            have hat := HATR.out.then_ hbx
            have x0 := hat.cell 0
            have HBX := Lib.hid hbx
            have HQR := Lib.hid hrr
            have hbb : Below w.heap.size w wr := below_then (below_then HB4.out HB.out) hbx
            simp at x0
            by_cases hlt : q < n1
            · have x3 := (hbb.cell (p := ⟨b1, off1 + q, none⟩) hb1).trans (C1.out q hlt)
              have hzw := hbb.size
              have hbz : b1 < wr.heap.size := by omega
              have HST := Lib.hid (head_drop (t := 7) (l := hd) (k := q) (by rw [L1.out]; exact hlt))
              obtain ⟨sx, hsx⟩ : ∃ sx, sx = hd.getD q ByteArray.empty := ⟨_, rfl⟩
              rw [← hsx] at x3
              have HC := Lib.hid (show R = if sx.size = 0 then 8 else if (hd.take q).any (fun u => decide (u = sx)) = true then 7 else headErr 7 (hd.take (q + 1)) (hd.drop (q + 1)) by rw [HQR.out, HST.out, ← hsx])
              have CN := Lib.hid (show Calls Tryd.prog 21 #[.slice (some ⟨b1, off1, none⟩) q c1, .string sx] wr (fun e w' => e = .returned (.bool ((hd.take q).any (fun u => decide (u = sx)))) ∧ w' = wr) by
                rw [← contains_any]
                exact Any.slices_Contains_string Tryd.laysn110 b1 off1 q c1 hd sx wr (by rw [L1.out]; omega) (by omega) (fun j hj => (hbb.cell (p := ⟨b1, off1 + j, none⟩) hb1).trans (C1.out j (by rw [← L1.out]; exact hj))))
              clear hsx hrr hbx hbb hat HST HQR
              by_cases hs0 : sx.size = 0
              · have HRC := Lib.hid (show R = 8 by rw [HC.out, if_pos hs0])
                obtain rfl := str_empty sx hs0
                clear hs0 CN
                go_wp2_with fail
                go_ret
                exact ⟨by rw [HRC.out]; rfl, by have := below_then (below_then HB4.out HB.out) HBX.out; (repeat' (first | exact Below.refl _ _ | assumption | refine Below.drew ?_ | refine below_drewN ?_ _ | refine below_new ?_ _ | refine below_set ?_ ?_ _ | refine below_then ?_ (by assumption) | refine below_drawn ?_ (by assumption) | exact Nat.le_refl _ | omega | (simp; done) | (simp; omega)))⟩
              · have hne := str_ne sx (by omega)
                obtain ⟨bb, hbv⟩ : ∃ bb, bb = (hd.take q).any (fun u => decide (u = sx)) := ⟨_, rfl⟩
                have HC2 := Lib.hid (show R = if bb = true then 7 else headErr 7 (hd.take (q + 1)) (hd.drop (q + 1)) by rw [HC.out, if_neg hs0, ← hbv])
                rw [← hbv] at CN
                clear hs0 hbv HC
                cases bb with
                | true =>
                  go_wp2_with (go_at_call 21; refine (CN.out).mono ?_; rintro e w1 ⟨rfl, rfl⟩)
                  go_ret
                  exact ⟨by rw [HC2.out]; rfl, by have := below_then (below_then HB4.out HB.out) HBX.out; (repeat' (first | exact Below.refl _ _ | assumption | refine Below.drew ?_ | refine below_drewN ?_ _ | refine below_new ?_ _ | refine below_set ?_ ?_ _ | refine below_then ?_ (by assumption) | refine below_drawn ?_ (by assumption) | exact Nat.le_refl _ | omega | (simp; done) | (simp; omega)))⟩
                | false =>
                  have HC3 := Lib.hid (show R = headErr 7 (hd.take (q + 1)) (hd.drop (q + 1)) by rw [HC2.out]; rfl)
                  clear HC2
                  go_wp2_with (go_at_call 21; refine (CN.out).mono ?_; rintro e w1 ⟨rfl, rfl⟩)
                  go_roundw
                  case rel => exact ⟨q + 1, by omega, rfl, HC3.out, by have := HBX.out; (repeat' (first | exact Below.refl _ _ | assumption | refine Below.drew ?_ | refine below_drewN ?_ _ | refine below_new ?_ _ | refine below_set ?_ ?_ _ | refine below_then ?_ (by assumption) | refine below_drawn ?_ (by assumption) | exact Nat.le_refl _ | omega | (simp; done) | (simp; omega)))⟩
                  case measure => simp [intOf]; omega
            · obtain rfl : q = n1 := by omega
              have HRC := Lib.hid (show R = 0 by rw [HQR.out, List.drop_eq_nil_of_le (by rw [L1.out]; exact Nat.le_refl _)]; rfl)
              clear hrr hbx hbb hat hlt
              go_wp2_with fail
              go_ret
              exact ⟨by rw [HRC.out]; rfl, by have := below_then (below_then HB4.out HB.out) HBX.out; (repeat' (first | exact Below.refl _ _ | assumption | refine Below.drew ?_ | refine below_drewN ?_ _ | refine below_new ?_ _ | refine below_set ?_ ?_ _ | refine below_then ?_ (by assumption) | refine below_drawn ?_ (by assumption) | exact Nat.le_refl _ | omega | (simp; done) | (simp; omega)))⟩
end Go.Proofs.YthpiiocncdpimaaDoor
