/- Several texts in one: Per0, Per1, Per2. -/
import Derived.Test.YtlbjmpdonnlieaaGreatDoorMgFa
import Derived.Test.YtlbjmpdonnlieaaGreatDoorMgJ
import Derived.Test.YtlbjmpdonnlieaaGreatDoorMgG
namespace Go.Proofs.YtlbjmpdonnlieaaGreatDoor
set_option linter.unusedVariables false
set_option linter.unusedSimpArgs false
set_option maxRecDepth 100000
mutual
def fstOk : Fst → Prop
  | .node k a b s ks => formB k a b s ks.length = true ∧ (usesN k = true → monthsN s ≠ 0) ∧ rangeB k a b (mostN k s) = true ∧ fstOks ks
def fstOks : List Fst → Prop
  | [] => True
  | t :: ts => fstOk t ∧ fstOks ts
end
theorem fstOk_node {k a b : Int} {s : ByteArray} {ks : List Fst} (h : fstOk (.node k a b s ks)) : formB k a b s ks.length = true ∧ (usesN k = true → monthsN s ≠ 0) ∧ rangeB k a b (mostN k s) = true ∧ fstOks ks := by rw [fstOk] at h; exact h
theorem fstOks_mem : ∀ {ts : List Fst} {t : Fst}, fstOks ts → t ∈ ts → fstOk t
  | x :: ts, t, h, hm => by
    rw [fstOks] at h
    rcases List.mem_cons.1 hm with rfl | hm
    · exact h.1
    · exact fstOks_mem h.2 hm
mutual
theorem fstGo_ok : ∀ (t : Fst) (d u c : Int), (fstGo t d u c).1 = 0 → fstOk t ∧ (t.high : Int) ≤ 11 - d
  | .node k a b s ks, d, u, c, h => by
    rw [fstGo_node] at h
    by_cases h0 : nodeErr k a b s ks.length d u c ≠ 0
    · rw [if_pos h0] at h; exact absurd h h0
    rw [if_neg h0] at h
    obtain ⟨_, h2, _, h4, h5, h6⟩ := nodeErr_zero (Classical.not_not.1 h0)
    obtain ⟨h7, h8⟩ := fstRow_ok ks (d + 1) (u + wideI k) (c + 1) h
    rw [fstOk, Fst.high]
    exact ⟨⟨h4, h5, h6, h7⟩, by omega⟩
theorem fstRow_ok : ∀ (ts : List Fst) (d u c : Int), (fstRow ts d u c).1 = 0 → fstOks ts ∧ (Fst.highs ts = 0 ∨ (Fst.highs ts : Int) ≤ 11 - d)
  | [], d, u, c, h => by rw [fstOks, Fst.highs]; exact ⟨trivial, .inl rfl⟩
  | t :: ts, d, u, c, h => by
    rw [fstRow_cons] at h
    by_cases h0 : (fstGo t d u c).1 ≠ 0
    · rw [if_pos h0] at h; exact absurd h h0
    rw [if_neg h0] at h
    obtain ⟨h1, h2⟩ := fstGo_ok t d u c (Classical.not_not.1 h0)
    obtain ⟨h3, h4⟩ := fstRow_ok ts d u _ h
    rw [fstOks, Fst.highs]
    exact ⟨⟨h1, h3⟩, .inr (by omega)⟩
end
theorem fst_ok {t : Fst} (h : fstErr t = 0) : fstOk t ∧ t.high ≤ 10 := by
  obtain ⟨h1, h2⟩ := fstGo_ok t 1 0 0 h
  exact ⟨h1, by omega⟩
def totN (s : ByteArray) : Int := match rowOf s.data.toList with
  | none => 0
  | some r => daysTo (shortOf (msL r)) (longOf (msL r)) (lsL r) (calN r : Int)
theorem row_total {r : List UInt8} (h : r ∈ rowsL) : 1 ≤ daysTo (shortOf (msL r)) (longOf (msL r)) (lsL r) (calN r : Int) ∧ daysTo (shortOf (msL r)) (longOf (msL r)) (lsL r) (calN r : Int) ≤ 100000000 := by
  have ok := calOk_of (row_cal h)
  have hc1 := ok.cy1
  have hc2 := ok.cy2
  have := daysTo_bound (shortOf (msL r)) (longOf (msL r)) (lsL r) (calN r : Int) (by omega) (by omega) ok.sh1 ok.sh2 ok.lo1 ok.lo2 ok.sorted (fun y hy => (ok.leaps y hy).1)
  omega
theorem totN_in {s : ByteArray} (h : monthsN s ≠ 0) : 1 ≤ totN s ∧ totN s ≤ 100000000 := by
  unfold totN
  unfold monthsN at h
  cases hr : rowOf s.data.toList with
  | none => rw [hr] at h; exact absurd rfl h
  | some r => exact row_total (List.mem_of_find?_eq_some hr)
def lcmP (a b : Int) : Int := a / (Int.gcd a b : Int) * b
def baseP (k a : Int) (s : ByteArray) : Int := if usesN k = true then totN s else if k = 3 ∨ k = 8 then 7 else if k = 4 then a else 1
mutual
def perP : Fst → Int
  | .node k a b s ks => if k = 5 ∨ k = 6 then 0 else perRow ks (baseP k a s) false
def perRow : List Fst → Int → Bool → Int
  | [], n, o => if o = true then -1 else n
  | t :: ts, n, o => if perP t = 0 then 0 else if perP t < 0 then perRow ts n true else if o = true then perRow ts n true else perRow ts (lcmP n (perP t)) (decide (1000000000 < lcmP n (perP t)))
end
def lcmC (a b : Int) : Int := if a = 0 ∨ b = 0 then 0 else if 1000000000 < lcmP a b then 0 else lcmP a b
mutual
def pcP : Fst → Int
  | .node k a b s ks => pcRow ks (lcmC (baseP k a s) 1)
def pcRow : List Fst → Int → Int
  | [], n => n
  | t :: ts, n => pcRow ts (lcmC n (pcP t))
end
mutual
def onceP : Fst → Bool
  | .node k a b s ks => onceRow ks (decide (k = 5 ∨ k = 6))
def onceRow : List Fst → Bool → Bool
  | [], o => o
  | t :: ts, o => onceRow ts (o || onceP t)
end
theorem perP_node (k a b : Int) (s : ByteArray) (ks : List Fst) : perP (.node k a b s ks) = if k = 5 ∨ k = 6 then 0 else perRow ks (baseP k a s) false := by rw [perP]
theorem perRow_nil (n : Int) (o : Bool) : perRow [] n o = if o = true then -1 else n := by rw [perRow]
theorem perRow_cons (t : Fst) (ts : List Fst) (n : Int) (o : Bool) : perRow (t :: ts) n o = if perP t = 0 then 0 else if perP t < 0 then perRow ts n true else if o = true then perRow ts n true else perRow ts (lcmP n (perP t)) (decide (1000000000 < lcmP n (perP t))) := by rw [perRow]
theorem pcP_node (k a b : Int) (s : ByteArray) (ks : List Fst) : pcP (.node k a b s ks) = pcRow ks (lcmC (baseP k a s) 1) := by rw [pcP]
theorem pcRow_cons (t : Fst) (ts : List Fst) (n : Int) : pcRow (t :: ts) n = pcRow ts (lcmC n (pcP t)) := by rw [pcRow]
theorem pcRow_nil (n : Int) : pcRow [] n = n := by rw [pcRow]
theorem onceP_node (k a b : Int) (s : ByteArray) (ks : List Fst) : onceP (.node k a b s ks) = onceRow ks (decide (k = 5 ∨ k = 6)) := by rw [onceP]
theorem onceRow_cons (t : Fst) (ts : List Fst) (o : Bool) : onceRow (t :: ts) o = onceRow ts (o || onceP t) := by rw [onceRow]
theorem onceRow_nil (o : Bool) : onceRow [] o = o := by rw [onceRow]
theorem onceRow_true : ∀ ts : List Fst, onceRow ts true = true
  | [] => by rw [onceRow_nil]
  | t :: ts => by rw [onceRow_cons, Bool.true_or, onceRow_true ts]
theorem gcd_bounds {a b : Int} (ha : 1 ≤ a) (hb : 1 ≤ b) : 1 ≤ (Int.gcd a b : Int) ∧ (Int.gcd a b : Int) ≤ a ∧ (Int.gcd a b : Int) ≤ b ∧ 1 ≤ a / (Int.gcd a b : Int) ∧ a / (Int.gcd a b : Int) ≤ a := by
  have h1 : (Int.gcd a b : Int) ∣ a := Int.gcd_dvd_left ..
  have h2 : (Int.gcd a b : Int) ∣ b := Int.gcd_dvd_right ..
  have h3 : (Int.gcd a b : Int) ≠ 0 := by
    intro h
    rw [h] at h1
    have := Int.zero_dvd.1 h1
    omega
  have h4 := Int.le_of_dvd (by omega) h1
  have h5 := Int.le_of_dvd (by omega) h2
  have h6 : 0 < (Int.gcd a b : Int) := by omega
  refine ⟨h6, h4, h5, ?_, Int.ediv_le_self _ (by omega)⟩
  exact (Int.le_ediv_iff_mul_le h6).2 (by omega)
theorem lcmP_one {a : Int} (ha : 1 ≤ a) : lcmP a 1 = a := by unfold lcmP; simp
theorem lcmP_in {a b : Int} (ha : 1 ≤ a) (ha2 : a ≤ 1000000000) (hb : 1 ≤ b) (hb2 : b ≤ 1000000000) : 1 ≤ lcmP a b ∧ lcmP a b ≤ 1000000000000000000 := by
  obtain ⟨_, _, _, h4, h5⟩ := gcd_bounds ha hb
  unfold lcmP
  generalize a / (Int.gcd a b : Int) = q at *
  constructor
  · have := Int.mul_le_mul h4 hb (by omega) (by omega); omega
  · have := Int.mul_le_mul (show q ≤ 1000000000 by omega) hb2 (by omega) (by omega); omega
theorem baseP_in {k a b : Int} {s : ByteArray} {ks : List Fst} (h : fstOk (.node k a b s ks)) : 1 ≤ baseP k a s ∧ baseP k a s ≤ 100000000 := by
  obtain ⟨h1, h2, h3, _⟩ := fstOk_node h
  unfold baseP
  by_cases hn : usesN k = true
  · rw [if_pos hn]; exact totN_in (h2 hn)
  rw [if_neg hn]
  by_cases h7 : k = 3 ∨ k = 8
  · rw [if_pos h7]; omega
  rw [if_neg h7]
  by_cases h4 : k = 4
  · rw [if_pos h4]
    subst h4
    unfold rangeB at h3
    rw [if_neg (by omega), if_neg (by omega), if_neg (by omega), if_pos rfl, Bool.and_eq_true] at h3
    have := inB_iff.1 h3.1
    omega
  rw [if_neg h4]; omega
theorem per_same (t : Fst) : fstOk t → (onceP t = true → perP t = 0) ∧ (onceP t = false → (perP t = -1 ∧ pcP t = 0) ∨ (1 ≤ perP t ∧ perP t ≤ 1000000000 ∧ pcP t = perP t)) := by
  refine Fst.all (P := fun t => fstOk t → (onceP t = true → perP t = 0) ∧ (onceP t = false → (perP t = -1 ∧ pcP t = 0) ∨ (1 ≤ perP t ∧ perP t ≤ 1000000000 ∧ pcP t = perP t))) ?_ t
  intro k a b s ks ih hok
  obtain ⟨hb1, hb2⟩ := baseP_in hok
  have hks := (fstOk_node hok).2.2.2
  rw [onceP_node, perP_node, pcP_node]
  by_cases h5 : k = 5 ∨ k = 6
  · rw [if_pos h5, decide_eq_true h5, onceRow_true]
    exact ⟨fun _ => rfl, fun h => by cases h⟩
  rw [if_neg h5, decide_eq_false h5]
  generalize baseP k a s = n at *
  have h0 : lcmC n 1 = n := by unfold lcmC; rw [if_neg (by omega), lcmP_one hb1, if_neg (by omega)]
  rw [h0]
  have key : ∀ (ts : List Fst), (∀ t ∈ ts, t ∈ ks) → ∀ (n m : Int) (o : Bool), (o = true ∧ m = 0 ∨ o = false ∧ m = n ∧ 1 ≤ n ∧ n ≤ 1000000000) →
      (onceRow ts false = true → perRow ts n o = 0) ∧ (onceRow ts false = false → (perRow ts n o = -1 ∧ pcRow ts m = 0) ∨ (1 ≤ perRow ts n o ∧ perRow ts n o ≤ 1000000000 ∧ pcRow ts m = perRow ts n o)) := by
    intro ts
    induction ts with
    | nil =>
      intro _ n m o h
      rw [onceRow_nil, perRow_nil, pcRow_nil]
      refine ⟨fun h => (by cases h), fun _ => ?_⟩
      rcases h with ⟨rfl, rfl⟩ | ⟨rfl, rfl, h1, h2⟩
      · exact .inl ⟨rfl, rfl⟩
      · exact .inr ⟨h1, h2, rfl⟩
    | cons t ts iht =>
      intro hm n m o h
      obtain ⟨i1, i2⟩ := ih t (hm t (List.mem_cons_self ..)) (fstOks_mem hks (hm t (List.mem_cons_self ..)))
      have IT := iht fun x hx => hm x (List.mem_cons_of_mem _ hx)
      rw [onceRow_cons, perRow_cons, pcRow_cons, Bool.false_or]
      cases ho : onceP t with
      | true => rw [if_pos (i1 ho), onceRow_true]; exact ⟨fun _ => rfl, fun h => by cases h⟩
      | false =>
        rcases i2 ho with ⟨j1, j2⟩ | ⟨j1, j2, j3⟩
        · rw [if_neg (by omega), if_pos (by omega)]
          exact IT n _ true (.inl ⟨rfl, by rw [j2]; unfold lcmC; rw [if_pos (.inr rfl)]⟩)
        · rw [if_neg (by omega), if_neg (by omega)]
          rcases h with ⟨rfl, rfl⟩ | ⟨rfl, rfl, h1, h2⟩
          · rw [if_pos rfl]
            exact IT n _ true (.inl ⟨rfl, by unfold lcmC; rw [if_pos (.inl rfl)]⟩)
          · rw [if_neg (by simp), j3]
            obtain ⟨l1, l2⟩ := lcmP_in h1 h2 j1 j2
            by_cases hl : 1000000000 < lcmP m (perP t)
            · exact IT _ _ _ (.inl ⟨decide_eq_true hl, by unfold lcmC; rw [if_neg (by omega), if_pos hl]⟩)
            · exact IT _ _ _ (.inr ⟨decide_eq_false hl, by unfold lcmC; rw [if_neg (by omega), if_neg hl], l1, by omega⟩)
  exact key ks (fun t h => h) n n false (.inr ⟨rfl, rfl, hb1, by omega⟩)
def perOk (t : Fst) : Int × Int := if perP t = 0 then (0, 6) else if perP t < 0 then (0, 14) else (perP t, 0)
def perOut (t : Fst) : Int × Int := if fstErr t ≠ 0 then (0, fstErr t) else perOk t
theorem perOk_cases (t : Fst) (h : fstOk t) : (onceP t = true ∧ perP t = 0 ∧ perOk t = (0, 6)) ∨ (onceP t = false ∧ perP t = -1 ∧ pcP t = 0 ∧ perOk t = (0, 14)) ∨ (onceP t = false ∧ 1 ≤ perP t ∧ pcP t = perP t ∧ perOk t = (perP t, 0)) := by
  have h1 := per_same t h
  unfold perOk
  cases ho : onceP t with
  | true => left; rw [if_pos (h1.1 ho)]; exact ⟨rfl, h1.1 ho, rfl⟩
  | false =>
    right
    rcases h1.2 ho with ⟨h2, h3⟩ | ⟨h2, h3, h4⟩
    · left; rw [if_neg (by omega), if_pos (by omega)]; exact ⟨rfl, h2, h3, rfl⟩
    · right; rw [if_neg (by omega), if_neg (by omega)]; exact ⟨rfl, h2, h4, rfl⟩
theorem onceRow_drop {ts : List Fst} {i : Nat} {t : Fst} (o : Bool) (h : ts[i]? = some t) : onceRow (ts.drop i) o = onceRow (ts.drop (i + 1)) (o || onceP t) := by
  obtain ⟨hl, rfl⟩ := List.getElem?_eq_some_iff.1 h
  rw [List.drop_eq_getElem_cons hl, onceRow_cons]
theorem pcRow_drop {ts : List Fst} {i : Nat} {t : Fst} (n : Int) (h : ts[i]? = some t) : pcRow (ts.drop i) n = pcRow (ts.drop (i + 1)) (lcmC n (pcP t)) := by
  obtain ⟨hl, rfl⟩ := List.getElem?_eq_some_iff.1 h
  rw [List.drop_eq_getElem_cons hl, pcRow_cons]
theorem perRow_drop {ts : List Fst} {i : Nat} {t : Fst} (n : Int) (o : Bool) (h : ts[i]? = some t) : perRow (ts.drop i) n o = if perP t = 0 then 0 else if perP t < 0 then perRow (ts.drop (i + 1)) n true else if o = true then perRow (ts.drop (i + 1)) n true else perRow (ts.drop (i + 1)) (lcmP n (perP t)) (decide (1000000000 < lcmP n (perP t))) := by
  obtain ⟨hl, rfl⟩ := List.getElem?_eq_some_iff.1 h
  rw [List.drop_eq_getElem_cons hl, perRow_cons]
theorem lcmC_in {a b : Int} (ha : 0 ≤ a) (ha2 : a ≤ 1000000000) (hb : 0 ≤ b) (hb2 : b ≤ 1000000000) : 0 ≤ lcmC a b ∧ lcmC a b ≤ 1000000000 := by
  unfold lcmC
  by_cases h : a = 0 ∨ b = 0
  · rw [if_pos h]; omega
  rw [if_neg h]
  have := lcmP_in (show 1 ≤ a by omega) ha2 (show 1 ≤ b by omega) hb2
  by_cases h2 : 1000000000 < lcmP a b
  · rw [if_pos h2]; omega
  · rw [if_neg h2]; omega
theorem pcP_in (t : Fst) : fstOk t → 0 ≤ pcP t ∧ pcP t ≤ 1000000000 := by
  refine Fst.all (P := fun t => fstOk t → 0 ≤ pcP t ∧ pcP t ≤ 1000000000) ?_ t
  intro k a b s ks ih hok
  obtain ⟨hb1, hb2⟩ := baseP_in hok
  have hks := (fstOk_node hok).2.2.2
  have key : ∀ (ts : List Fst), (∀ t ∈ ts, t ∈ ks) → ∀ n : Int, 0 ≤ n → n ≤ 1000000000 → 0 ≤ pcRow ts n ∧ pcRow ts n ≤ 1000000000 := by
    intro ts
    induction ts with
    | nil => intro _ n h1 h2; rw [pcRow_nil]; exact ⟨h1, h2⟩
    | cons t ts iht =>
      intro hm n h1 h2
      rw [pcRow_cons]
      have h3 := ih t (hm t (List.mem_cons_self ..)) (fstOks_mem hks (hm t (List.mem_cons_self ..)))
      have h4 := lcmC_in h1 h2 h3.1 h3.2
      exact iht (fun x hx => hm x (List.mem_cons_of_mem _ hx)) _ h4.1 h4.2
  rw [pcP_node]
  have h0 := lcmC_in (show 0 ≤ baseP k a s by omega) (by omega) (show (0 : Int) ≤ 1 by omega) (by omega)
  exact key ks (fun t h => h) _ h0.1 h0.2
theorem perP_in (t : Fst) (h : fstOk t) : -1 ≤ perP t ∧ perP t ≤ 1000000000 := by
  have h1 := per_same t h
  cases ho : onceP t with
  | true => rw [h1.1 ho]; omega
  | false => rcases h1.2 ho with h2 | h2 <;> omega
open Go.RowKit Go.Shelf
set_option maxHeartbeats 4000000 in
theorem period_once : ∀ (t : Fst) (w : World) (ad : Option Addr) (len cap : Nat), FSub w w.heap.size t ad len → len ≤ cap → cap ≤ 9223372036854775807 →
    Calls Tryz.prog 67 #[.agg (fV t.kind t.va t.vb t.nm ad len cap)] w (fun e w' => e = .returned (.bool (onceP t)) ∧ Below w.heap.size w w') := by
  intro t
  refine Fst.all (P := fun t => ∀ (w : World) (ad : Option Addr) (len cap : Nat), FSub w w.heap.size t ad len → len ≤ cap → cap ≤ 9223372036854775807 →
    Calls Tryz.prog 67 #[.agg (fV t.kind t.va t.vb t.nm ad len cap)] w (fun e w' => e = .returned (.bool (onceP t)) ∧ Below w.heap.size w w')) ?_ t
  intro k a b s ks ih w ad len cap hsub hlc hcap
  have IH := Lib.hid ih; clear ih
  have LN := Lib.hid hsub.len.1
  have hlm := hsub.len.2.1
  have HS := Lib.hid hsub; clear hsub
  simp only [Fst.kind, Fst.va, Fst.vb, Fst.nm]
  have o0 := One.new w (fO k a b s ad len cap)
  obtain ⟨od, hod⟩ : ∃ x, x = decide (k = 5 ∨ k = 6) := ⟨_, rfl⟩
  have HO := Lib.hid (show onceP (.node k a b s ks) = onceRow ks od by rw [hod, onceP_node])
  have hwl : IntKind.i64.wrap (len : Int) = (len : Int) := IntWalk.i64_in _ (by omega)
  go_enter Tryz.func67, Tryz.ntmps67
  go_upto_region 1 with fail
  generalize World.alloc w _ = W0 at o0 ⊢
  have O0 := Lib.hid o0.2
  have o1 := o0.1
  clear o0
  have d0 := o1.cell 0; have d1 := o1.cell 1; have d2 := o1.cell 2; have d3 := o1.cell 3; have d4 := o1.cell 4; simp at d0 d1 d2 d3 d4
  clear o1
  go_cut [3] from 6 (fun y wx => y = .bool od ∧ W0 = wx)
  case first =>
    by_cases h5 : k = 5
    · have hb : (k == 5) = true := by simpa using h5
      have hw := Lib.hid (show od = true by rw [hod, decide_eq_true (.inl h5)])
      clear h5 hod
      go_wp2_with fail
      go_meet
      case rel => exact ⟨by rw [hw.out], rfl⟩
    by_cases h6 : k = 6
    · have hb : (k == 5) = false := kne h5
      have hb2 : (k == 6) = true := by simpa using h6
      have hw := Lib.hid (show od = true by rw [hod, decide_eq_true (.inr h6)])
      clear h5 h6 hod
      go_wp2_with fail
      go_meet
      case rel => exact ⟨by rw [hw.out], rfl⟩
    · have hb : (k == 5) = false := kne h5
      have hb2 : (k == 6) = false := kne h6
      have hw := Lib.hid (show od = false by rw [hod, decide_eq_false (by omega)])
      clear h5 h6 hod
      go_wp2_with fail
      go_meet
      case rel => exact ⟨by rw [hw.out], rfl⟩
  case rest =>
  obtain ⟨rfl, rfl⟩ := hcut
  clear hod d0 d1 d2 d3
  go_wp2_with fail
  clear d4
  go_loopw [3, 5, 17] (fun o _ i wr => ∃ (j : Nat) (ob : Bool), j ≤ len ∧ i = .int .i64 j ∧ o = .bool ob ∧ onceRow ks od = onceRow (ks.drop j) ob ∧ Below w.heap.size w wr) (fun _ _ i _ => len - (intOf i).toNat)
  case atStart => exact ⟨0, od, by omega, rfl, rfl, rfl, O0.out⟩
  case round =>
    clear O0
    obtain ⟨j, ob, hj, rfl, rfl, hrow, ok⟩ := hrel
    have HR := Lib.hid hrow; clear hrow
    by_cases hlt : j < len
    · obtain ⟨bb, off, rfl, hbB, hcs⟩ := HS.out.kid (by omega)
      obtain ⟨k', x', y', s', ks', ad', n', cc, hx, ⟨z0, z1, z2, z3, z4, q1, q2⟩, hk⟩ := hcs j hlt
      replace z0 := (ok.cell (p := ⟨bb, _, none⟩) hbB).trans z0
      replace z1 := (ok.cell (p := ⟨bb, _, none⟩) hbB).trans z1
      replace z2 := (ok.cell (p := ⟨bb, _, none⟩) hbB).trans z2
      replace z3 := (ok.cell (p := ⟨bb, _, none⟩) hbB).trans z3
      replace z4 := (ok.cell (p := ⟨bb, _, none⟩) hbB).trans z4
      simp only [Fst.kind, Fst.va, Fst.vb, Fst.nm] at z0 z1 z2 z3
      have hz := ok.size
      have hbz : bb < wr.heap.size := by omega
      have HN := Lib.hid (HR.out.trans (onceRow_drop ob hx))
      have hb1 := below_new ok (fO k' x' y' s' ad' n' cc)
      have hcall := IH.out (.node k' x' y' s' ks') (List.mem_of_getElem? hx) (wr.alloc (fO k' x' y' s' ad' n' cc)) ad' n' cc ((hk.below hb1 (Nat.le_refl _)).more hb1.size) q1 q2
      simp only [Fst.kind, Fst.va, Fst.vb, Fst.nm] at hcall
      have HB1 := Lib.hid hb1
      clear hcs hx hk ok HR hb1
      cases ob with
      | true =>
        clear hcall
        go_wp2_with fail
        go_roundw
        case rel => exact ⟨j + 1, true, by omega, by go_num, rfl, HN.out, HB1.out⟩
        case measure => simp [intOf]; omega
      | false =>
        obtain ⟨r, hr⟩ : ∃ r, r = onceP (.node k' x' y' s' ks') := ⟨_, rfl⟩
        rw [← hr] at hcall
        have HN2 := Lib.hid (show onceRow ks od = onceRow (ks.drop (j + 1)) r by rw [HN.out, hr, Bool.false_or])
        have HC := Lib.hid hcall; clear hcall hr HN
        go_wp2_with (go_at_call 67; refine HC.out.mono ?_; rintro e w5 ⟨rfl, hb⟩)
        go_roundw
        case rel => exact ⟨j + 1, r, by omega, by go_num, rfl, HN2.out, below_then HB1.out hb⟩
        case measure => simp [intOf]; omega
    · have HN := Lib.hid (show onceP (.node k a b s ks) = ob by rw [HO.out, HR.out, List.drop_eq_nil_of_le (by have := LN.out; omega), onceRow_nil])
      go_wp2_with fail
      go_ret
      exact ⟨ret_bool (by rw [HN.out]), ok⟩
set_option maxHeartbeats 2000000 in
theorem period_lcm (a b : Int) (w : World) (a0 : 0 ≤ a) (a1 : a ≤ 1000000000) (b0 : 0 ≤ b) (b1 : b ≤ 1000000000) : Calls Tryz.prog 110 #[.int .i64 a, .int .i64 b] w fun e w' => e = .returned (.int .i64 (lcmC a b)) ∧ Below w.heap.size w w' := by
  by_cases ha : a = 0
  · have ho := Lib.hid (show lcmC a b = 0 by unfold lcmC; rw [if_pos (.inl ha)])
    have h : (a == 0) = true := by simpa using ha
    clear ha
    exact q96
  by_cases hb : b = 0
  · have ho := Lib.hid (show lcmC a b = 0 by unfold lcmC; rw [if_pos (.inr hb)])
    have h : (b == 0) = true := by simpa using hb
    have h' : (a == 0) = false := by simpa using ha
    clear ha hb
    exact q96
  have ha' : (a == 0) = false := by simpa using ha
  have hb' : (b == 0) = false := by simpa using hb
  obtain ⟨g1, g2, g3, g4, g5⟩ := gcd_bounds (show 1 ≤ a by omega) (show 1 ≤ b by omega)
  have hl := lcmP_in (show 1 ≤ a by omega) a1 (show 1 ≤ b by omega) b1
  have hgo : gcdOut a b = .tuple #[.int .i64 (Int.gcd a b : Int), .int .i64 0] := by unfold gcdOut; rw [if_pos (by omega)]
  have ho := Lib.hid (show lcmC a b = if 1000000000 < a / (Int.gcd a b : Int) * b then 0 else a / (Int.gcd a b : Int) * b by unfold lcmC lcmP; rw [if_neg (by omega)])
  unfold lcmP at hl
  have CG := Lib.hid (whole_Gcd a b w (by omega) (by omega) (by omega) (by omega))
  rw [hgo] at CG
  clear hgo ha hb
  generalize (Int.gcd a b : Int) = g at *
  obtain ⟨lb1, lb2⟩ := hl
  clear g2 g3
  have ha1 : 1 ≤ a := by have h := ha'; simp at h; omega
  by_cases hbig : 1000000000 < a / g * b
  · rw [if_pos hbig] at ho
    exact q67
  · rw [if_neg hbig] at ho
    exact q67
theorem usesN_t {k : Int} (h : k = 1 ∨ k = 12 ∨ k = 2) : usesN k = true := decide_eq_true h
theorem usesN_f {k : Int} (h : ¬ (k = 1 ∨ k = 12 ∨ k = 2)) : usesN k = false := decide_eq_false h
theorem row_of_months {s : ByteArray} (h : monthsN s ≠ 0) : ∃ r, rowOf s.data.toList = some r := by
  unfold monthsN at h
  cases hr : rowOf s.data.toList with
  | none => rw [hr] at h; exact absurd rfl h
  | some r => exact ⟨r, rfl⟩
theorem str_back2 (s : ByteArray) : (⟨s.data.toList.toArray⟩ : ByteArray) = s := by simp
set_option maxHeartbeats 8000000 in
theorem period_period (w0 : World) (m : Int) (hm : w0.cell? ⟨1, 0, none⟩ = some (.int .i64 m)) (hlv : Lvl w0) (hsg : Sgn w0) : ∀ (t : Fst) (w : World) (ad : Option Addr) (len cap : Nat), fstOk t → FSub w0 w0.heap.size t ad len → Below w0.heap.size w0 w → len ≤ cap → cap ≤ 9223372036854775807 →
    Calls Tryz.prog 68 #[.agg (fV t.kind t.va t.vb t.nm ad len cap)] w (fun e w' => e = .returned (.int .i64 (pcP t)) ∧ Below w0.heap.size w0 w') := by
  intro t
  refine Fst.all (P := fun t => ∀ (w : World) (ad : Option Addr) (len cap : Nat), fstOk t → FSub w0 w0.heap.size t ad len → Below w0.heap.size w0 w → len ≤ cap → cap ≤ 9223372036854775807 →
    Calls Tryz.prog 68 #[.agg (fV t.kind t.va t.vb t.nm ad len cap)] w (fun e w' => e = .returned (.int .i64 (pcP t)) ∧ Below w0.heap.size w0 w')) ?_ t
  intro k a b s ks ih w ad len cap hok hsub hbw hlc hcap
  have hgm := World.block_lt_of_cell? _ _ hm
  have CC := Lib.hid (fun (W : World) (hW : Below w0.heap.size w0 W) => show Calls Tryz.prog 36 #[.string s] W (CalPost s.data.toList W) from by
    have h := cat_Calendar s.data.toList W m ((hW.cell (p := ⟨1, 0, none⟩) hgm).trans hm) (hlv.below hW) (hsg.below hW)
    rw [str_back2] at h; exact h)
  clear hm hlv hsg hgm
  have IH := Lib.hid ih; clear ih
  have LN := Lib.hid hsub.len.1
  have hlm := hsub.len.2.1
  have HS := Lib.hid hsub; clear hsub
  have HOK := Lib.hid hok
  have HB := Lib.hid (baseP_in hok)
  clear hok
  simp only [Fst.kind, Fst.va, Fst.vb, Fst.nm]
  have HPC := Lib.hid (pcP_node k a b s ks)
  obtain ⟨n0, hn0⟩ : ∃ x, x = baseP k a s := ⟨_, rfl⟩
  have HN0 := Lib.hid hn0
  have hnb := HB.out
  rw [← hn0] at HPC hnb
  clear hn0 HB
  obtain ⟨nb1, nb2⟩ := hnb
  have hwl : IntKind.i64.wrap (len : Int) = (len : Int) := IntWalk.i64_in _ (by omega)
  have a0 := At.new w (fO k a b s ad len cap)
  have b0 := below_new hbw (fO k a b s ad len cap)
  go_enter Tryz.func68, Tryz.ntmps68
  go_upto_region 1 with fail
  obtain ⟨T, hT⟩ : ∃ T, T = w.heap.size := ⟨_, rfl⟩
  rw [← hT] at a0 ⊢
  generalize World.alloc w _ = W0 at a0 b0 ⊢
  clear hT hbw
  have A0 := Lib.hid a0; have B0 := Lib.hid b0
  have d0 := a0.cell 0; have d1 := a0.cell 1; have d2 := a0.cell 2; have d3 := a0.cell 3; have d4 := a0.cell 4; simp at d0 d1 d2 d3 d4
  clear a0 b0
  go_cut [3] from 8 (fun y wx => y = .int .i64 1 ∧ W0 = wx)
  case first =>
    go_wp2_with fail
    go_meet
    case rel => exact ⟨rfl, rfl⟩
  case rest =>
  obtain ⟨rfl, rfl⟩ := hcut
  apply_assumption
  refine wp_seq_k ?_
  intro KK hKK
  go_cut [3] from 8 (fun y wx => y = .int .i64 n0 ∧ At wx T (fO k a b s ad len cap) ∧ Below w0.heap.size w0 wx)
  case first =>
    as_aux_lemma =>
    clear hKK
    by_cases hu : k = 1 ∨ k = 12 ∨ k = 2
    · have hmn := (fstOk_node HOK.out).2.1 (usesN_t hu)
      obtain ⟨r, hro⟩ := row_of_months hmn
      have hrow := List.mem_of_find?_eq_some hro
      have hn := Lib.hid (show n0 = daysTo (shortOf (msL r)) (longOf (msL r)) (lsL r) (calN r : Int) by
        rw [HN0.out]; unfold baseP totN; rw [if_pos (usesN_t hu), hro])
      have hcp := CC.out W0 B0.out
      unfold CalPost at hcp
      rw [hro] at hcp
      have CP := Lib.hid (show Calls Tryz.prog 36 #[.string s] W0 (fun e w' => ∃ v, e = .returned (.tuple #[v, .int .i64 0]) ∧ CalRet r W0 v w') from hcp)
      have CT := Lib.hid (fun (W : World) (a1 a2 : Option Addr) (n1 c1 n2 c2 : Nat) (h1 : n1 ≤ c1) (h : CalAt W a1 a2 n1 n2 (msL r) (lsL r)) => show Calls Tryz.prog 109 #[.agg #[.string (tkS (ruleL r).nm), .int .i64 (ruleL r).ep, .int .i64 (calN r : Int), .slice a1 n1 c1, .slice a2 n2 c2]] W (fun e w' => e = .returned (.tuple #[.int .i64 n0, .int .i64 0]) ∧ Below W.heap.size W w') from by
        have h2 := compile_Total W (tkS (ruleL r).nm) (ruleL r).ep (calN r : Int) a1 a2 n1 c1 n2 c2 (msL r) (lsL r) (tkS_le hrow) h1 h
        unfold totalOut at h2
        rw [if_neg (by rw [row_cal hrow]; simp), ← hn.out] at h2
        exact h2)
      clear hcp hmn hrow hro
      rcases hu with rfl | rfl | rfl
      all_goals
        go_upto_region 7 with (go_at_call 36; refine CP.out.mono ?_; rintro e w3 ⟨v, rfl, a1, n1, c1, a2, n2, c2, rfl, j1, j2, hcal, hb⟩)
        have o3 := At.new w3 (.cells #[.string (tkS (ruleL r).nm), .int .i64 (ruleL r).ep, .int .i64 (calN r : Int), .slice a1 n1 c1, .slice a2 n2 c2] 39)
        have bn := below_new (Below.refl w3.heap.size w3) (.cells #[.string (tkS (ruleL r).nm), .int .i64 (ruleL r).ep, .int .i64 (calN r : Int), .slice a1 n1 c1, .slice a2 n2 c2] 39)
        have A3 := Lib.hid ((A0.out.then_ hb).then_ bn)
        have B3 := Lib.hid (below_then (below_then B0.out hb) bn)
        have HC := Lib.hid (CT.out _ a1 a2 n1 c1 n2 c2 j1 (hcal.then_ bn))
        clear hb hcal bn
        generalize World.alloc w3 _ = W3 at o3 A3 B3 HC ⊢
        have y0 := o3.cell 0; have y1 := o3.cell 1; have y2 := o3.cell 2; have y3 := o3.cell 3; have y4 := o3.cell 4; simp at y0 y1 y2 y3 y4
        clear o3
        go_wp2_with (go_at_call 109; refine HC.out.mono ?_; rintro e w4 ⟨rfl, hb4⟩)
        go_meet
        case rel => exact ⟨rfl, A3.out.then_ hb4, below_then B3.out hb4⟩
    · by_cases h7 : k = 3 ∨ k = 8
      · have hn := Lib.hid (show n0 = 7 by rw [HN0.out]; unfold baseP; rw [if_neg (by rw [usesN_f hu]; simp), if_pos h7])
        rcases h7 with rfl | rfl
        all_goals
          clear hu
          go_wp2_with fail
          go_meet
          case rel => exact ⟨by rw [hn.out], A0.out, B0.out⟩
      · by_cases h4 : k = 4
        · have hn := Lib.hid (show n0 = a by rw [HN0.out]; unfold baseP; rw [if_neg (by rw [usesN_f hu]; simp), if_neg h7, if_pos h4])
          subst h4
          clear hu h7
          go_wp2_with fail
          go_meet
          case rel => exact ⟨by rw [hn.out], A0.out, B0.out⟩
        · have hn := Lib.hid (show n0 = 1 by rw [HN0.out]; unfold baseP; rw [if_neg (by rw [usesN_f hu]; simp), if_neg h7, if_neg h4])
          have e1 := kne (show k ≠ 1 by omega)
          have e2 := kne (show k ≠ 2 by omega)
          have e12 := kne (show k ≠ 12 by omega)
          have e3 := kne (show k ≠ 3 by omega)
          have e8 := kne (show k ≠ 8 by omega)
          have e4 := kne h4
          clear hu h7 h4
          go_wp2_with fail
          go_meet
          case rel => exact ⟨by rw [hn.out], A0.out, B0.out⟩
  case rest =>
  obtain ⟨rfl, a3, b3⟩ := hcut
  clear CC A0 B0 HN0 d0 d1 d2 d3 d4
  obtain ⟨l0, hl0⟩ : ∃ x, x = lcmC n0 1 := ⟨_, rfl⟩
  have hlb := lcmC_in (show 0 ≤ n0 by omega) (by omega) (show (0 : Int) ≤ 1 by omega) (by omega)
  have C1 := Lib.hid (period_lcm n0 1 wc (by omega) (by omega) (by omega) (by omega))
  rw [← hl0] at HPC C1 hlb
  obtain ⟨lb1, lb2⟩ := hlb
  clear hl0
  have B3 := Lib.hid b3
  go_upto_region 14 with (go_at_call 110; refine C1.out.mono ?_; rintro e w4 ⟨rfl, hb⟩)
  have a4 := a3.then_ hb
  have B4 := Lib.hid (below_then B3.out hb)
  have d4 : w4.cell? ⟨T, 4, none⟩ = some (.slice ad len cap) := a4.cell 4
  clear a3 b3 a4 hb C1 B3
  go_wp2_with fail
  clear d4
  go_loopw [3, 7, 37] (fun n _ i wr => ∃ (j : Nat) (v : Int), j ≤ len ∧ i = .int .i64 j ∧ n = .int .i64 v ∧ 0 ≤ v ∧ v ≤ 1000000000 ∧ pcRow ks l0 = pcRow (ks.drop j) v ∧ Below w0.heap.size w0 wr) (fun _ _ i _ => len - (intOf i).toNat)
  case atStart => exact ⟨0, l0, by omega, rfl, rfl, lb1, lb2, rfl, B4.out⟩
  case round =>
    clear B4
    obtain ⟨j, v, hj, rfl, rfl, v0, v1, hrow, ok⟩ := hrel
    have HR := Lib.hid hrow; clear hrow
    by_cases hlt : j < len
    · obtain ⟨bb, off, rfl, hbB, hcs⟩ := HS.out.kid (by omega)
      obtain ⟨k', x', y', s', ks', ad', n', cc, hx, ⟨z0, z1, z2, z3, z4, q1, q2⟩, hk⟩ := hcs j hlt
      replace z0 := (ok.cell (p := ⟨bb, _, none⟩) hbB).trans z0
      replace z1 := (ok.cell (p := ⟨bb, _, none⟩) hbB).trans z1
      replace z2 := (ok.cell (p := ⟨bb, _, none⟩) hbB).trans z2
      replace z3 := (ok.cell (p := ⟨bb, _, none⟩) hbB).trans z3
      replace z4 := (ok.cell (p := ⟨bb, _, none⟩) hbB).trans z4
      simp only [Fst.kind, Fst.va, Fst.vb, Fst.nm] at z0 z1 z2 z3
      have hz := ok.size
      have hbz : bb < wr.heap.size := by omega
      have hokk := fstOks_mem (fstOk_node HOK.out).2.2.2 (List.mem_of_getElem? hx)
      have hb1 := below_new ok (fO k' x' y' s' ad' n' cc)
      have hcall := IH.out (.node k' x' y' s' ks') (List.mem_of_getElem? hx) (wr.alloc (fO k' x' y' s' ad' n' cc)) ad' n' cc hokk hk hb1 q1 q2
      simp only [Fst.kind, Fst.va, Fst.vb, Fst.nm] at hcall
      have hpi := pcP_in _ hokk
      obtain ⟨r, hr⟩ : ∃ r, r = pcP (.node k' x' y' s' ks') := ⟨_, rfl⟩
      rw [← hr] at hcall hpi
      obtain ⟨p0, p1⟩ := hpi
      have hli := lcmC_in v0 v1 p0 p1
      have HN := Lib.hid (show pcRow ks l0 = pcRow (ks.drop (j + 1)) (lcmC v r) by rw [HR.out, pcRow_drop v hx, ← hr])
      have CL := Lib.hid (fun W : World => period_lcm v r W v0 v1 p0 p1)
      obtain ⟨u, hu⟩ : ∃ u, u = lcmC v r := ⟨_, rfl⟩
      rw [← hu] at HN CL hli
      obtain ⟨u0, u1⟩ := hli
      have HC := Lib.hid hcall
      clear hcs hx hk ok HR hb1 hcall hokk hr hu
      go_wp2_with (first | (go_at_call 68; refine HC.out.mono ?_; rintro e w5 ⟨rfl, hb⟩) | (go_at_call 110; refine (CL.out _).mono ?_; rintro e w6 ⟨rfl, hb2⟩))
      go_roundw
      case rel => exact ⟨j + 1, u, by omega, by go_num, rfl, u0, u1, HN.out, below_then hb hb2⟩
      case measure => simp [intOf]; omega
    · have HN := Lib.hid (show pcP (.node k a b s ks) = v by rw [HPC.out, HR.out, List.drop_eq_nil_of_le (by have := LN.out; omega), pcRow_nil])
      go_wp2_with fail
      go_ret
      exact ⟨ret_int (by rw [HN.out]), ok⟩
end Go.Proofs.YtlbjmpdonnlieaaGreatDoor
