/- Contracts of forecast.changes and of the reference's ZoneYear: the changes of a year. -/
import Derived.Test.YtjpbkkoflaajcabDoorFore4
import Derived.Deep.RegionHeld3
import Derived.Deep.AppendLies
namespace Go.Proofs.YtjpbkkoflaajcabDoor
set_option linter.unusedVariables false
set_option maxRecDepth 100000
open Go.RowKit greg

theorem Tryd.infoChange : (Tryd.prog.info? 43).map (fun i => (i.zero, i.size, i.bytes)) = some (some (.agg #[.int .i64 0, .int .i64 0, .string ByteArray.empty]), 3, 32) := by kernel_rfl
theorem cell_allocF {w : World} {o : Obj} {p : Addr} {v : Value} (h : w.cell? p = some v) : (w.alloc o).cell? p = some v := by
  rcases Nat.lt_or_ge p.block w.heap.size with hp | hp
  · exact ((below_new (Below.refl w.heap.size w) o).cell hp).trans h
  · simp [World.cell?, Array.getElem?_eq_none hp] at h
theorem own_fresh {w : World} {base : Nat} {e : TypeId} {size : Nat} {v : Value} {n : Nat} {xs : List Value} (h : w.ownsRow base e size v n xs) : some w.heap.size ≠ v.ownBlock := by
  rcases h.2 with ⟨rfl, _⟩ | ⟨g, cap, cur, rfl, hg, hat, _⟩
  · simp [Value.ownBlock]
  · have := (show At w g (.cells cur e) from hat).lt
    simp [Value.ownBlock]; omega
theorem own_far5 {w : World} {base : Nat} {e : TypeId} {size : Nat} {v : Value} {n : Nat} {xs : List Value} (h : w.ownsRow base e size v n xs) {b : Nat} (hb : v.ownBlock = some b) : base ≤ b := by
  rcases h.2 with ⟨rfl, _⟩ | ⟨g, cap, cur, rfl, hg, _⟩
  · simp [Value.ownBlock] at hb
  · simp [Value.ownBlock] at hb; omega
theorem chg_len (ms : List Chg) : (ms.flatMap encChg).length = ms.length * 3 := by
  induction ms with
  | nil => rfl
  | cons x l ih => rw [List.flatMap_cons, List.length_append, ih, List.length_cons, Nat.add_mul]; simp [encChg]; omega
theorem chg_at : ∀ (ms : List Chg) (i : Nat) (x : Chg) (j : Nat) (v : Value), ms[i]? = some x → (encChg x)[j]? = some v → (ms.flatMap encChg)[i * 3 + j]? = some v
  | [], i, x, j, v, h, _ => by simp at h
  | y :: l, 0, x, j, v, h, hv => by
    simp at h; subst h
    have hj : j < 3 := by
      rcases Nat.lt_or_ge j 3 with h | h
      · exact h
      · rw [List.getElem?_eq_none (by simp [encChg]; omega)] at hv; cases hv
    rw [List.flatMap_cons, List.getElem?_append_left (by simp [encChg]; omega)]
    simpa using hv
  | y :: l, i + 1, x, j, v, h, hv => by
    rw [List.flatMap_cons, List.getElem?_append_right (by simp [encChg]; omega)]
    have := chg_at l i x j v (by simpa using h) hv
    rw [show (i + 1) * 3 + j - (encChg y).length = i * 3 + j by simp [encChg]; omega]
    exact this
/-- A row of the call's own reads as changes. -/
theorem own_changes {w : World} {base : Nat} {v : Value} {n : Nat} {ms : List Chg} (h : w.ownsRow base 43 3 v n (ms.flatMap encChg)) (hn : ms.length = n) (hok : ∀ x ∈ ms, okChg x) :
    ∃ a c, v = .slice a n c ∧ n ≤ c ∧ c ≤ 9223372036854775807 ∧ Changes w w.heap.size a n ms := by
  rcases h.2 with ⟨rfl, h0⟩ | ⟨g, cap, cur, rfl, _, hcur, hnc, hcm, hcs, htake⟩
  · have hz : n = 0 := h0
    subst hz
    exact ⟨none, 0, rfl, by omega, by omega, ⟨hn, by omega, fun h => absurd h (by omega)⟩, hok⟩
  · unfold maxLen at hcm
    have hat : At w g (.cells cur 43) := hcur
    refine ⟨some ⟨g, 0, none⟩, cap, rfl, hnc, by omega, ⟨hn, by omega, fun _ => ⟨g, 0, rfl, hat.lt, fun i x hx j u hu => ?_⟩⟩, hok⟩
    have h1 := chg_at ms i x j u hx hu
    rw [← htake, List.getElem?_take] at h1
    split at h1
    · rw [hat.cell, ← h1, Nat.zero_add, Array.getElem?_toList]
    · cases h1
/-- The rules' numbers. -/
def RulOk (x : Rul) : Prop := (1 ≤ x.1 ∧ x.1 ≤ 12) ∧ (1 ≤ x.2.1 ∧ x.2.1 ≤ 5) ∧ (0 ≤ x.2.2.1 ∧ x.2.2.1 ≤ 6) ∧ (0 ≤ x.2.2.2.1 ∧ x.2.2.2.1 ≤ 86399999) ∧ -64800000 ≤ x.2.2.2.2.1 ∧ x.2.2.2.2.1 ≤ 64800000
theorem rul_each : ∀ (xs : List Rul) (p : Option Int), rulErr p xs = 0 → ∀ x ∈ xs, RulOk x
  | [], _, _, x, hx => by cases hx
  | (m, w, d, t, o, l) :: r, p, h, x, hx => by
    rw [rulErr_cons] at h
    rcases ruleB_cases m w d t o with ⟨hb, a1, a2, a3, a4, a5⟩ | ⟨hb, _⟩
    · rw [if_neg (by rw [hb]; simp)] at h
      by_cases q1 : labelB l = false
      · rw [if_pos q1] at h; omega
      rw [if_neg q1] at h
      have h' : rulErr (some m) r = 0 := by
        cases p with
        | none => simpa using h
        | some q =>
          by_cases hq : m ≤ q
          · simp [hq] at h
          · simpa [hq] using h
      rcases List.mem_cons.1 hx with rfl | hx
      · exact ⟨a1, a2, a3, a4, offB_bound a5⟩
      · exact rul_each r _ h' x hx
    · rw [if_pos hb] at h; omega
theorem rules_len {xs : List Rul} (h : rulesErr xs = 0) : 1 ≤ xs.length ∧ xs.length ≤ 4 := by
  unfold rulesErr at h
  split at h
  · omega
  · omega
theorem rules_each {xs : List Rul} (h : rulesErr xs = 0) : ∀ x ∈ xs, RulOk x := by
  unfold rulesErr at h
  split at h
  · omega
  · exact rul_each xs none h
/-- The offset ahead of the k-th rule. -/
def prevO (b : Int) (xs : List Rul) : Nat → Int
  | 0 => b
  | k + 1 => match xs[k]? with | some r => r.2.2.2.2.1 | none => b
theorem prevO_succ {b : Int} {xs : List Rul} {k : Nat} {m wk wd t o : Int} {l : ByteArray} (h : xs[k]? = some (m, wk, wd, t, o, l)) : prevO b xs (k + 1) = o := by rw [prevO, h]
theorem prevO_in {b : Int} {xs : List Rul} (h : ∀ x ∈ xs, RulOk x) (b1 : -64800000 ≤ b) (b2 : b ≤ 64800000) (k : Nat) : -64800000 ≤ prevO b xs k ∧ prevO b xs k ≤ 64800000 := by
  cases k with
  | zero => exact ⟨b1, b2⟩
  | succ k =>
    rw [prevO]
    cases hx : xs[k]? with
    | none => exact ⟨b1, b2⟩
    | some r => exact (h r (List.mem_of_getElem? hx)).2.2.2.2
def chgAt (y b : Int) (r : Rul) : Chg := (ruleDay y r.1 r.2.1 r.2.2.1 * 86400000 + r.2.2.2.1 - b, r.2.2.2.2.1, r.2.2.2.2.2)
/-- The changes of the first k rules. -/
def yearTo (y b : Int) (xs : List Rul) : Nat → List Chg
  | 0 => []
  | k + 1 => yearTo y b xs k ++ (match xs[k]? with | some r => [chgAt y (prevO b xs k) r] | none => [])
theorem yearTo_succ {y b : Int} {xs : List Rul} {k : Nat} {r : Rul} (h : xs[k]? = some r) : yearTo y b xs (k + 1) = yearTo y b xs k ++ [chgAt y (prevO b xs k) r] := by rw [yearTo, h]
theorem yearTo_len {y b : Int} {xs : List Rul} : ∀ k, k ≤ xs.length → (yearTo y b xs k).length = k
  | 0, _ => rfl
  | k + 1, h => by
    rw [yearTo_succ (List.getElem?_eq_getElem (show k < xs.length by omega)), List.length_append, yearTo_len k (by omega)]; rfl
theorem yearTo_ok {y b : Int} {xs : List Rul} (hx : ∀ x ∈ xs, RulOk x) (hl : ∀ x ∈ xs, x.2.2.2.2.2.size ≤ 9223372036854775807) (b1 : -64800000 ≤ b) (b2 : b ≤ 64800000) (y1 : -10000 ≤ y) (y2 : y ≤ 10000) : ∀ (k : Nat) (c : Chg), c ∈ yearTo y b xs k → okChg c
  | 0, c, h => by simp [yearTo] at h
  | k + 1, c, h => by
    rw [yearTo] at h
    rcases List.mem_append.1 h with h | h
    · exact yearTo_ok hx hl b1 b2 y1 y2 k c h
    · cases hk : xs[k]? with
      | none => rw [hk] at h; simp at h
      | some r =>
        rw [hk] at h
        simp at h
        subst h
        obtain ⟨⟨a1, a2⟩, ⟨a3, a4⟩, ⟨a5, a6⟩, ⟨a7, a8⟩, a9, a10⟩ := hx r (List.mem_of_getElem? hk)
        obtain ⟨d1, d2⟩ := ruleDay_bound (y := y) y1 y2 a1 a2 a3 a4 a5 a6
        obtain ⟨p1, p2⟩ := prevO_in hx b1 b2 k
        refine ⟨?_, ?_, hl r (List.mem_of_getElem? hk)⟩
        · unfold chgAt I64; simp only; omega
        · unfold chgAt I64; simp only; omega
def YearPost (y b : Int) (xs : List Rul) (w : World) (e : Ending) (w' : World) : Prop := ∃ v, e = .returned v ∧ w'.ownsRow w.heap.size 43 3 v xs.length ((yearTo y b xs xs.length).flatMap encChg) ∧ Below w.heap.size w w'
set_option maxHeartbeats 8000000 in
theorem forecast_changes (w : World) (a : Option Addr) (n c : Nat) (xs : List Rul) (b y : Int) (hok : rulesErr xs = 0) (b1 : -64800000 ≤ b) (b2 : b ≤ 64800000) (y1 : -10000 ≤ y) (y2 : y ≤ 10000) (h : Rules w w.heap.size a n xs) :
    Calls Tryd.prog 31 #[.slice a n c, .int .i64 b, .int .i64 y] w (YearPost y b xs w) := by
  obtain ⟨i0, hi, hz0, hz1, hz2⟩ := info_parts Tryd.infoChange
  have L1 := Lib.hid h.len
  obtain ⟨n1, n2⟩ := rules_len hok
  have HEACH := Lib.hid (rules_each hok)
  have H := Lib.hid h; clear h hok
  have hn4 : n ≤ 4 := by have := L1.out; omega
  have hpost : YearPost y b xs w = fun e w' => ∃ v, e = .returned v ∧ w'.ownsRow w.heap.size 43 3 v n ((yearTo y b xs n).flatMap encChg) ∧ Below w.heap.size w w' := by unfold YearPost; rw [L1.out]
  rw [hpost]; clear hpost
  go_enter Tryd.func31, Tryd.ntmps31
  go_wp2_with fail
  go_loopw [1, 7, 9, 12] (fun vb v _ vi wr => ∃ k : Nat, k ≤ n ∧ vb = .int .i64 (prevO b xs k) ∧ vi = .int .i64 k ∧ wr.ownsRow w.heap.size 43 3 v k ((yearTo y b xs k).flatMap encChg) ∧ Below w.heap.size w wr) (fun _ _ _ vi _ => n - (intOf vi).toNat)
  case atStart => exact ⟨0, by omega, rfl, rfl, World.ownsRow_nil _ _ _ _, Below.refl _ _⟩
  case round =>
    obtain ⟨k, hk, rfl, rfl, hown, bw⟩ := hrel
    have OWN := Lib.hid hown; have BW := Lib.hid bw; clear hown
    have hws := bw.size
    by_cases hlt : k < n
    case neg =>
      obtain rfl : n = k := by omega
      clear bw
      go_wp2_with fail
      go_ret
      exact ⟨_, rfl, OWN.out, BW.out⟩
    obtain ⟨rb, roff, rfl, hrb, hcs⟩ := (H.out.below bw (Nat.le_refl _)).open_ (by omega)
    obtain ⟨m, wk, wd, t, o, l, c0, c1, c2, c3, c4, c5, hx, _⟩ := hcs k hlt
    obtain ⟨⟨m1, m2⟩, ⟨k1, k2⟩, ⟨h0, h1⟩, ⟨t1, t2⟩, o1, o2⟩ := HEACH.out _ (List.mem_of_getElem? hx)
    simp only at m1 m2 k1 k2 h0 h1 t1 t2 o1 o2
    obtain ⟨q1, q2⟩ := prevO_in HEACH.out b1 b2 k
    have HSUCC := Lib.hid (yearTo_succ (y := y) (b := b) hx)
    have HPS := Lib.hid (prevO_succ (b := b) hx)
    obtain ⟨r1, r2⟩ := ruleDay_bound (y := y) y1 y2 m1 m2 k1 k2 h0 h1
    obtain ⟨R, hR⟩ : ∃ R, R = ruleDay y m wk wd := ⟨_, rfl⟩
    rw [← hR] at r1 r2
    have HRD := Lib.hid hR
    have HCH := Lib.hid (show chgAt y (prevO b xs k) (m, wk, wd, t, o, l) = (R * 86400000 + t - prevO b xs k, o, l) by rw [hR]; rfl)
    have hrbw : rb < wr.heap.size := by omega
    clear hcs hx hR
    have hxo := own_fresh OWN.out
    have HXO := Lib.hid hxo; clear hxo
    go_upto_region 5 with fail
    have ax := At.new wr (.cells #[.int .i64 m, .int .i64 wk, .int .i64 wd, .int .i64 t, .int .i64 o, .string l] 55)
    have b1w := below_new BW.out (.cells #[.int .i64 m, .int .i64 wk, .int .i64 wd, .int .i64 t, .int .i64 o, .string l] 55)
    have own1 := OWN.out.alloc (.cells #[.int .i64 m, .int .i64 wk, .int .i64 wd, .int .i64 t, .int .i64 o, .string l] 55)
    have hX1 : wr.heap.size < (wr.alloc (.cells #[.int .i64 m, .int .i64 wk, .int .i64 wd, .int .i64 t, .int .i64 o, .string l] 55)).heap.size := ax.lt
    generalize World.alloc wr _ = W1 at ax b1w own1 hX1 ⊢
    generalize hXe : wr.heap.size = X at *
    have hX : X < W1.drew.heap.size := hX1
    have hBw : w.heap.size ≤ X := by omega
    have z0 : W1.cell? ⟨X, 0, none⟩ = some (.int .i64 m) := ax.cell 0
    have z1 : W1.cell? ⟨X, 1, none⟩ = some (.int .i64 wk) := ax.cell 1
    have z2 : W1.cell? ⟨X, 2, none⟩ = some (.int .i64 wd) := ax.cell 2
    have z3 : W1.cell? ⟨X, 3, none⟩ = some (.int .i64 t) := ax.cell 3
    have z4 : W1.cell? ⟨X, 4, none⟩ = some (.int .i64 o) := ax.cell 4
    have z5 : W1.cell? ⟨X, 5, none⟩ = some (.string l) := ax.cell 5
    have e0 : W1.drew.cell? ⟨X, 0, none⟩ = some (.int .i64 m) := z0
    have e1 : W1.drew.cell? ⟨X, 1, none⟩ = some (.int .i64 wk) := z1
    have e2 : W1.drew.cell? ⟨X, 2, none⟩ = some (.int .i64 wd) := z2
    have e3 : W1.drew.cell? ⟨X, 3, none⟩ = some (.int .i64 t) := z3
    have e4 : W1.drew.cell? ⟨X, 4, none⟩ = some (.int .i64 o) := z4
    have e5 : W1.drew.cell? ⟨X, 5, none⟩ = some (.string l) := z5
    have hxo := HXO.out
    have AX := Lib.hid ax; have BW1 := Lib.hid b1w; have OWN1 := Lib.hid own1
    clear ax b1w own1 OWN BW c0 c1 c2 c3 c4 c5 bw
    generalize hPO : prevO b xs k = P at *
    have hw1 : IntKind.i64.wrap (R * 86400000) = R * 86400000 := IntWalk.i64_in _ (by omega)
    have hw2 : IntKind.i64.wrap (R * 86400000 + t) = R * 86400000 + t := IntWalk.i64_in _ (by omega)
    obtain ⟨A, hA⟩ : ∃ A, A = R * 86400000 + t - P := ⟨_, rfl⟩
    have hw3 : IntKind.i64.wrap (R * 86400000 + t - P) = A := by rw [IntWalk.i64_in _ (by omega)]; exact hA.symm
    have HA := Lib.hid hA; clear hA
    obtain ⟨v, hv⟩ : ∃ v, v = u7 := ⟨_, rfl⟩
    subst hv
    go_region_held3 (fun w' => w'.cell? ⟨X, 0, none⟩ = some (.int .i64 m) ∧ w'.cell? ⟨X, 1, none⟩ = some (.int .i64 wk) ∧ w'.cell? ⟨X, 2, none⟩ = some (.int .i64 wd) ∧ w'.cell? ⟨X, 3, none⟩ = some (.int .i64 t) ∧ w'.cell? ⟨X, 4, none⟩ = some (.int .i64 o) ∧ w'.cell? ⟨X, 5, none⟩ = some (.string l))
      (first
        | with_reducible exact ⟨e0, e1, e2, e3, e4, e5⟩
        | with_reducible exact ⟨z0, z1, z2, z3, z4, z5⟩
        | with_reducible exact ⟨(hb.cell (p := ⟨X, 0, none⟩) (by first | (simp only; omega) | (simp; omega))).trans e0, (hb.cell (p := ⟨X, 1, none⟩) (by first | (simp only; omega) | (simp; omega))).trans e1, (hb.cell (p := ⟨X, 2, none⟩) (by first | (simp only; omega) | (simp; omega))).trans e2, (hb.cell (p := ⟨X, 3, none⟩) (by first | (simp only; omega) | (simp; omega))).trans e3, (hb.cell (p := ⟨X, 4, none⟩) (by first | (simp only; omega) | (simp; omega))).trans e4, (hb.cell (p := ⟨X, 5, none⟩) (by first | (simp only; omega) | (simp; omega))).trans e5⟩
        | with_reducible exact ⟨cell_allocF ((hb.cell (p := ⟨X, 0, none⟩) (by first | (simp only; omega) | (simp; omega))).trans e0), cell_allocF ((hb.cell (p := ⟨X, 1, none⟩) (by first | (simp only; omega) | (simp; omega))).trans e1), cell_allocF ((hb.cell (p := ⟨X, 2, none⟩) (by first | (simp only; omega) | (simp; omega))).trans e2), cell_allocF ((hb.cell (p := ⟨X, 3, none⟩) (by first | (simp only; omega) | (simp; omega))).trans e3), cell_allocF ((hb.cell (p := ⟨X, 4, none⟩) (by first | (simp only; omega) | (simp; omega))).trans e4), cell_allocF ((hb.cell (p := ⟨X, 5, none⟩) (by first | (simp only; omega) | (simp; omega))).trans e5)⟩
        | with_reducible exact ⟨(hgrow.cell_far ⟨X, 0, none⟩ (by simp; omega) hxo).trans (cell_allocF ((hb.cell (p := ⟨X, 0, none⟩) (by first | (simp only; omega) | (simp; omega))).trans e0)), (hgrow.cell_far ⟨X, 1, none⟩ (by simp; omega) hxo).trans (cell_allocF ((hb.cell (p := ⟨X, 1, none⟩) (by first | (simp only; omega) | (simp; omega))).trans e1)), (hgrow.cell_far ⟨X, 2, none⟩ (by simp; omega) hxo).trans (cell_allocF ((hb.cell (p := ⟨X, 2, none⟩) (by first | (simp only; omega) | (simp; omega))).trans e2)), (hgrow.cell_far ⟨X, 3, none⟩ (by simp; omega) hxo).trans (cell_allocF ((hb.cell (p := ⟨X, 3, none⟩) (by first | (simp only; omega) | (simp; omega))).trans e3)), (hgrow.cell_far ⟨X, 4, none⟩ (by simp; omega) hxo).trans (cell_allocF ((hb.cell (p := ⟨X, 4, none⟩) (by first | (simp only; omega) | (simp; omega))).trans e4)), (hgrow.cell_far ⟨X, 5, none⟩ (by simp; omega) hxo).trans (cell_allocF ((hb.cell (p := ⟨X, 5, none⟩) (by first | (simp only; omega) | (simp; omega))).trans e5))⟩)
      (first
        | (go_at_call 40; refine (forecast_day _ m wk wd t o y l m1 m2 k1 k2 h0 h1 y1 y2).mono ?_; rw [← HRD.out]; rintro e w2 ⟨rfl, hb⟩; have ownw := own_then4 (w := W1.drew) OWN1.out hb; have hx2 : X < w2.heap.size := Nat.lt_of_lt_of_le hX hb.size; have hbs2 : w.heap.size ≤ w2.heap.size := Nat.le_trans hBw (Nat.le_of_lt hx2))
        | (refine step_append_lies _ (by rfl) _ _ _ (by rfl) w.heap.size 43 i0 _ 3 32 Tryd.underlying22 hi hz0 hz1 hz2 rfl (by omega) v k ((yearTo y b xs k).flatMap encChg) (by rfl) (ownw.alloc _) ⟨w2.heap.size, 0, none⟩ 1 1 [.int .i64 A, .int .i64 o, .string l] (by rfl) (by rfl) (World.news_of_block (cs := #[.int .i64 A, .int .i64 o, .string l]) (t := 43) (fr := (0, 0)) (heap_alloc_new w2 _)) (by simp [Value.oneCell']) (by omega) (by unfold maxLen; omega) (by omega) (by simp; omega) (w2.heap.size + 1) (by simp) ?_; intro gg cap w4 hown' hgrow hat hltg))
    have ax4 := ((AX.out.drew.then_ hb).alloc (.cells #[.int .i64 A, .int .i64 o, .string l] 43)).grown6 hgrow hxo
    have bw4 : Below w.heap.size w w4 := (below_new (below_then BW1.out.drew hb) (.cells #[.int .i64 A, .int .i64 o, .string l] 43)).grown hgrow (by simp; omega) (fun b hb => own_far5 ownw hb)
    have y4 : w4.cell? ⟨X, 4, none⟩ = some (.int .i64 o) := ax4.cell 4
    have OWN4 := Lib.hid hown'; have BW4 := Lib.hid bw4
    clear hown' hgrow ax4 bw4
    go_wp2_with fail
    go_roundw
    case rel => exact ⟨k + 1, by omega, by rw [HPS.out], by go_num, by rw [HSUCC.out, List.flatMap_append]; have hc := HCH.out; rw [hc, ← HA.out]; simpa [encChg] using OWN4.out, BW4.out⟩
    case measure => first | (simp [intOf]; done) | (simp [intOf]; omega)
set_option maxHeartbeats 8000000 in
theorem ref_ZoneYear (w : World) (a : Option Addr) (n c : Nat) (xs : List Rul) (b y : Int) (hok : rulesErr xs = 0) (b1 : -64800000 ≤ b) (b2 : b ≤ 64800000) (y1 : -10000 ≤ y) (y2 : y ≤ 10000) (h : Rules w w.heap.size a n xs) :
    Calls Tryd.prog 18 #[.slice a n c, .int .i64 b, .int .i64 y] w (YearPost y b xs w) := by
  obtain ⟨i0, hi, hz0, hz1, hz2⟩ := info_parts Tryd.infoChange
  have L1 := Lib.hid h.len
  obtain ⟨n1, n2⟩ := rules_len hok
  have HEACH := Lib.hid (rules_each hok)
  have H := Lib.hid h; clear h hok
  have hn4 : n ≤ 4 := by have := L1.out; omega
  have hpost : YearPost y b xs w = fun e w' => ∃ v, e = .returned v ∧ w'.ownsRow w.heap.size 43 3 v n ((yearTo y b xs n).flatMap encChg) ∧ Below w.heap.size w w' := by unfold YearPost; rw [L1.out]
  rw [hpost]; clear hpost
  go_enter Tryd.func18, Tryd.ntmps18
  go_wp2_with fail
  go_loopw [1, 7, 8, 9, 12] (fun vb v _ _ vi wr => ∃ (k : Nat) (b' : Int), k ≤ n ∧ (k = 0 → b' = b) ∧ vb = .int .i64 b' ∧ vi = .int .i64 k ∧ wr.ownsRow w.heap.size 43 3 v k ((yearTo y b xs k).flatMap encChg) ∧ Below w.heap.size w wr) (fun _ _ _ _ vi _ => n - (intOf vi).toNat)
  case atStart => exact ⟨0, b, by omega, fun _ => rfl, rfl, rfl, World.ownsRow_nil _ _ _ _, Below.refl _ _⟩
  case round =>
    obtain ⟨k, b', hk, hb0, rfl, rfl, hown, bw⟩ := hrel
    have OWN := Lib.hid hown; have BW := Lib.hid bw; clear hown
    have hws := bw.size
    by_cases hlt : k < n
    case neg =>
      obtain rfl : n = k := by omega
      clear bw
      go_wp2_with fail
      go_ret
      exact ⟨_, rfl, OWN.out, BW.out⟩
    obtain ⟨rb, roff, rfl, hrb, hcs⟩ := (H.out.below bw (Nat.le_refl _)).open_ (by omega)
    obtain ⟨m, wk, wd, t, o, l, c0, c1, c2, c3, c4, c5, hx, _⟩ := hcs k hlt
    obtain ⟨⟨m1, m2⟩, ⟨k1, k2⟩, ⟨h0, h1⟩, ⟨t1, t2⟩, o1, o2⟩ := HEACH.out _ (List.mem_of_getElem? hx)
    simp only at m1 m2 k1 k2 h0 h1 t1 t2 o1 o2
    obtain ⟨q1, q2⟩ := prevO_in HEACH.out b1 b2 k
    have HSUCC := Lib.hid (yearTo_succ (y := y) (b := b) hx)
    have HPS := Lib.hid (prevO_succ (b := b) hx)
    obtain ⟨r1, r2⟩ := ruleDay_bound (y := y) y1 y2 m1 m2 k1 k2 h0 h1
    obtain ⟨R, hR⟩ : ∃ R, R = ruleDay y m wk wd := ⟨_, rfl⟩
    rw [← hR] at r1 r2
    have HRD := Lib.hid hR
    have HCH := Lib.hid (show chgAt y (prevO b xs k) (m, wk, wd, t, o, l) = (R * 86400000 + t - prevO b xs k, o, l) by rw [hR]; rfl)
    have hprev : 0 < k → ∃ z, wr.cell? ⟨rb, roff + (k - 1) * 6 + 4, none⟩ = some (.int .i64 z) ∧ z = prevO b xs k := by
      intro hk0
      obtain ⟨m', wk', wd', t', o', l', _, _, _, _, c4', _, hx', _⟩ := hcs (k - 1) (by omega)
      refine ⟨o', c4', ?_⟩
      have := prevO_succ (b := b) hx'
      rw [show k - 1 + 1 = k by omega] at this
      exact this.symm
    have hrbw : rb < wr.heap.size := by omega
    clear hcs hx hR
    have hxo := own_fresh OWN.out
    have HXO := Lib.hid hxo; clear hxo
    rcases Nat.eq_zero_or_pos k with hk0 | hk0
    · subst hk0
      obtain rfl : b = b' := (hb0 rfl).symm
      clear hprev hb0
      replace HCH := Lib.hid (show chgAt y b (m, wk, wd, t, o, l) = (R * 86400000 + t - b, o, l) from HCH.out)
      replace HSUCC := Lib.hid (show yearTo y b xs (0 + 1) = yearTo y b xs 0 ++ [chgAt y b (m, wk, wd, t, o, l)] from HSUCC.out)
      simp only [Nat.zero_mul, Nat.add_zero] at c0 c1 c2 c3 c4 c5
      go_upto_region 7 with fail
      have ax := At.new wr (.cells #[.int .i64 m, .int .i64 wk, .int .i64 wd, .int .i64 t, .int .i64 o, .string l] 55)
      have b1w := below_new BW.out (.cells #[.int .i64 m, .int .i64 wk, .int .i64 wd, .int .i64 t, .int .i64 o, .string l] 55)
      have own1 := OWN.out.alloc (.cells #[.int .i64 m, .int .i64 wk, .int .i64 wd, .int .i64 t, .int .i64 o, .string l] 55)
      have hX1 : wr.heap.size < (wr.alloc (.cells #[.int .i64 m, .int .i64 wk, .int .i64 wd, .int .i64 t, .int .i64 o, .string l] 55)).heap.size := ax.lt
      generalize World.alloc wr _ = W1 at ax b1w own1 hX1 ⊢
      generalize hXe : wr.heap.size = X at *
      have hX : X < W1.drew.heap.size := hX1
      have hBw : w.heap.size ≤ X := by omega
      have z0 : W1.cell? ⟨X, 0, none⟩ = some (.int .i64 m) := ax.cell 0
      have z1 : W1.cell? ⟨X, 1, none⟩ = some (.int .i64 wk) := ax.cell 1
      have z2 : W1.cell? ⟨X, 2, none⟩ = some (.int .i64 wd) := ax.cell 2
      have z3 : W1.cell? ⟨X, 3, none⟩ = some (.int .i64 t) := ax.cell 3
      have z4 : W1.cell? ⟨X, 4, none⟩ = some (.int .i64 o) := ax.cell 4
      have z5 : W1.cell? ⟨X, 5, none⟩ = some (.string l) := ax.cell 5
      have e0 : W1.drew.cell? ⟨X, 0, none⟩ = some (.int .i64 m) := z0
      have e1 : W1.drew.cell? ⟨X, 1, none⟩ = some (.int .i64 wk) := z1
      have e2 : W1.drew.cell? ⟨X, 2, none⟩ = some (.int .i64 wd) := z2
      have e3 : W1.drew.cell? ⟨X, 3, none⟩ = some (.int .i64 t) := z3
      have e4 : W1.drew.cell? ⟨X, 4, none⟩ = some (.int .i64 o) := z4
      have e5 : W1.drew.cell? ⟨X, 5, none⟩ = some (.string l) := z5
      have hxo := HXO.out
      have AX := Lib.hid ax; have BW1 := Lib.hid b1w; have OWN1 := Lib.hid own1
      clear ax b1w own1 OWN BW c0 c1 c2 c3 c4 c5 bw
      skip
      have hw1 : IntKind.i64.wrap (R * 86400000) = R * 86400000 := IntWalk.i64_in _ (by omega)
      have hw2 : IntKind.i64.wrap (R * 86400000 + t) = R * 86400000 + t := IntWalk.i64_in _ (by omega)
      obtain ⟨A, hA⟩ : ∃ A, A = R * 86400000 + t - b := ⟨_, rfl⟩
      have hw3 : IntKind.i64.wrap (R * 86400000 + t - b) = A := by rw [IntWalk.i64_in _ (by omega)]; exact hA.symm
      have HA := Lib.hid hA; clear hA
      obtain ⟨v, hv⟩ : ∃ v, v = u7 := ⟨_, rfl⟩
      subst hv
      go_region_held3 (fun w' => w'.cell? ⟨X, 0, none⟩ = some (.int .i64 m) ∧ w'.cell? ⟨X, 1, none⟩ = some (.int .i64 wk) ∧ w'.cell? ⟨X, 2, none⟩ = some (.int .i64 wd) ∧ w'.cell? ⟨X, 3, none⟩ = some (.int .i64 t) ∧ w'.cell? ⟨X, 4, none⟩ = some (.int .i64 o) ∧ w'.cell? ⟨X, 5, none⟩ = some (.string l))
        (first
          | with_reducible exact ⟨e0, e1, e2, e3, e4, e5⟩
          | with_reducible exact ⟨z0, z1, z2, z3, z4, z5⟩
          | with_reducible exact ⟨(hb.cell (p := ⟨X, 0, none⟩) (by first | (simp only; omega) | (simp; omega))).trans e0, (hb.cell (p := ⟨X, 1, none⟩) (by first | (simp only; omega) | (simp; omega))).trans e1, (hb.cell (p := ⟨X, 2, none⟩) (by first | (simp only; omega) | (simp; omega))).trans e2, (hb.cell (p := ⟨X, 3, none⟩) (by first | (simp only; omega) | (simp; omega))).trans e3, (hb.cell (p := ⟨X, 4, none⟩) (by first | (simp only; omega) | (simp; omega))).trans e4, (hb.cell (p := ⟨X, 5, none⟩) (by first | (simp only; omega) | (simp; omega))).trans e5⟩
          | with_reducible exact ⟨cell_allocF ((hb.cell (p := ⟨X, 0, none⟩) (by first | (simp only; omega) | (simp; omega))).trans e0), cell_allocF ((hb.cell (p := ⟨X, 1, none⟩) (by first | (simp only; omega) | (simp; omega))).trans e1), cell_allocF ((hb.cell (p := ⟨X, 2, none⟩) (by first | (simp only; omega) | (simp; omega))).trans e2), cell_allocF ((hb.cell (p := ⟨X, 3, none⟩) (by first | (simp only; omega) | (simp; omega))).trans e3), cell_allocF ((hb.cell (p := ⟨X, 4, none⟩) (by first | (simp only; omega) | (simp; omega))).trans e4), cell_allocF ((hb.cell (p := ⟨X, 5, none⟩) (by first | (simp only; omega) | (simp; omega))).trans e5)⟩
          | with_reducible exact ⟨(hgrow.cell_far ⟨X, 0, none⟩ (by simp; omega) hxo).trans (cell_allocF ((hb.cell (p := ⟨X, 0, none⟩) (by first | (simp only; omega) | (simp; omega))).trans e0)), (hgrow.cell_far ⟨X, 1, none⟩ (by simp; omega) hxo).trans (cell_allocF ((hb.cell (p := ⟨X, 1, none⟩) (by first | (simp only; omega) | (simp; omega))).trans e1)), (hgrow.cell_far ⟨X, 2, none⟩ (by simp; omega) hxo).trans (cell_allocF ((hb.cell (p := ⟨X, 2, none⟩) (by first | (simp only; omega) | (simp; omega))).trans e2)), (hgrow.cell_far ⟨X, 3, none⟩ (by simp; omega) hxo).trans (cell_allocF ((hb.cell (p := ⟨X, 3, none⟩) (by first | (simp only; omega) | (simp; omega))).trans e3)), (hgrow.cell_far ⟨X, 4, none⟩ (by simp; omega) hxo).trans (cell_allocF ((hb.cell (p := ⟨X, 4, none⟩) (by first | (simp only; omega) | (simp; omega))).trans e4)), (hgrow.cell_far ⟨X, 5, none⟩ (by simp; omega) hxo).trans (cell_allocF ((hb.cell (p := ⟨X, 5, none⟩) (by first | (simp only; omega) | (simp; omega))).trans e5))⟩)
        (first
          | (go_at_call 33; refine (ref_ZoneRuleDay _ m wk wd t o y l m1 m2 k1 k2 h0 h1 y1 y2).mono ?_; rw [← HRD.out]; rintro e w2 ⟨rfl, hb⟩; have ownw := own_then4 (w := W1.drew) OWN1.out hb; have hx2 : X < w2.heap.size := Nat.lt_of_lt_of_le hX hb.size; have hbs2 : w.heap.size ≤ w2.heap.size := Nat.le_trans hBw (Nat.le_of_lt hx2))
          | (refine step_append_lies _ (by rfl) _ _ _ (by rfl) w.heap.size 43 i0 _ 3 32 Tryd.underlying22 hi hz0 hz1 hz2 rfl (by omega) v 0 ((yearTo y b xs 0).flatMap encChg) (by rfl) (ownw.alloc _) ⟨w2.heap.size, 0, none⟩ 1 1 [.int .i64 A, .int .i64 o, .string l] (by rfl) (by rfl) (World.news_of_block (cs := #[.int .i64 A, .int .i64 o, .string l]) (t := 43) (fr := (0, 0)) (heap_alloc_new w2 _)) (by simp [Value.oneCell']) (by omega) (by unfold maxLen; omega) (by omega) (by simp; omega) (w2.heap.size + 1) (by simp) ?_; intro gg cap w4 hown' hgrow hat hltg))
      have ax4 := ((AX.out.drew.then_ hb).alloc (.cells #[.int .i64 A, .int .i64 o, .string l] 43)).grown6 hgrow hxo
      have bw4 : Below w.heap.size w w4 := (below_new (below_then BW1.out.drew hb) (.cells #[.int .i64 A, .int .i64 o, .string l] 43)).grown hgrow (by simp; omega) (fun b hb => own_far5 ownw hb)
      have y4 : w4.cell? ⟨X, 4, none⟩ = some (.int .i64 o) := ax4.cell 4
      have OWN4 := Lib.hid hown'; have BW4 := Lib.hid bw4
      clear hown' hgrow ax4 bw4
      go_wp2_with fail
      go_roundw
      case rel => exact ⟨0 + 1, _, by omega, fun h => by omega, rfl, by go_num, by rw [HSUCC.out, List.flatMap_append]; have hc := HCH.out; rw [hc, ← HA.out]; simpa [encChg] using OWN4.out, BW4.out⟩
      case measure => first | (simp [intOf]; done) | (simp [intOf]; omega)
    · obtain ⟨z, hzc, rfl⟩ := hprev hk0
      clear hb0
      have hpos : (0 : Int) < (k : Int) := by omega
      have hkm : k - 1 < n := by omega
      have hw0 : IntKind.i64.wrap ((k : Int) - 1) = ((k - 1 : Nat) : Int) := by rw [IntWalk.i64_in _ (by omega)]; omega
      go_upto_region 7 with fail
      have ax := At.new wr (.cells #[.int .i64 m, .int .i64 wk, .int .i64 wd, .int .i64 t, .int .i64 o, .string l] 55)
      have b1w := below_new BW.out (.cells #[.int .i64 m, .int .i64 wk, .int .i64 wd, .int .i64 t, .int .i64 o, .string l] 55)
      have own1 := OWN.out.alloc (.cells #[.int .i64 m, .int .i64 wk, .int .i64 wd, .int .i64 t, .int .i64 o, .string l] 55)
      have hX1 : wr.heap.size < (wr.alloc (.cells #[.int .i64 m, .int .i64 wk, .int .i64 wd, .int .i64 t, .int .i64 o, .string l] 55)).heap.size := ax.lt
      generalize World.alloc wr _ = W1 at ax b1w own1 hX1 ⊢
      generalize hXe : wr.heap.size = X at *
      have hX : X < W1.drew.heap.size := hX1
      have hBw : w.heap.size ≤ X := by omega
      have z0 : W1.cell? ⟨X, 0, none⟩ = some (.int .i64 m) := ax.cell 0
      have z1 : W1.cell? ⟨X, 1, none⟩ = some (.int .i64 wk) := ax.cell 1
      have z2 : W1.cell? ⟨X, 2, none⟩ = some (.int .i64 wd) := ax.cell 2
      have z3 : W1.cell? ⟨X, 3, none⟩ = some (.int .i64 t) := ax.cell 3
      have z4 : W1.cell? ⟨X, 4, none⟩ = some (.int .i64 o) := ax.cell 4
      have z5 : W1.cell? ⟨X, 5, none⟩ = some (.string l) := ax.cell 5
      have e0 : W1.drew.cell? ⟨X, 0, none⟩ = some (.int .i64 m) := z0
      have e1 : W1.drew.cell? ⟨X, 1, none⟩ = some (.int .i64 wk) := z1
      have e2 : W1.drew.cell? ⟨X, 2, none⟩ = some (.int .i64 wd) := z2
      have e3 : W1.drew.cell? ⟨X, 3, none⟩ = some (.int .i64 t) := z3
      have e4 : W1.drew.cell? ⟨X, 4, none⟩ = some (.int .i64 o) := z4
      have e5 : W1.drew.cell? ⟨X, 5, none⟩ = some (.string l) := z5
      have hxo := HXO.out
      have AX := Lib.hid ax; have BW1 := Lib.hid b1w; have OWN1 := Lib.hid own1
      clear ax b1w own1 OWN BW c0 c1 c2 c3 c4 c5 bw
      generalize hPO : prevO b xs k = P at *
      have hw1 : IntKind.i64.wrap (R * 86400000) = R * 86400000 := IntWalk.i64_in _ (by omega)
      have hw2 : IntKind.i64.wrap (R * 86400000 + t) = R * 86400000 + t := IntWalk.i64_in _ (by omega)
      obtain ⟨A, hA⟩ : ∃ A, A = R * 86400000 + t - P := ⟨_, rfl⟩
      have hw3 : IntKind.i64.wrap (R * 86400000 + t - P) = A := by rw [IntWalk.i64_in _ (by omega)]; exact hA.symm
      have HA := Lib.hid hA; clear hA
      obtain ⟨v, hv⟩ : ∃ v, v = u7 := ⟨_, rfl⟩
      subst hv
      go_region_held3 (fun w' => w'.cell? ⟨X, 0, none⟩ = some (.int .i64 m) ∧ w'.cell? ⟨X, 1, none⟩ = some (.int .i64 wk) ∧ w'.cell? ⟨X, 2, none⟩ = some (.int .i64 wd) ∧ w'.cell? ⟨X, 3, none⟩ = some (.int .i64 t) ∧ w'.cell? ⟨X, 4, none⟩ = some (.int .i64 o) ∧ w'.cell? ⟨X, 5, none⟩ = some (.string l))
        (first
          | with_reducible exact ⟨e0, e1, e2, e3, e4, e5⟩
          | with_reducible exact ⟨z0, z1, z2, z3, z4, z5⟩
          | with_reducible exact ⟨(hb.cell (p := ⟨X, 0, none⟩) (by first | (simp only; omega) | (simp; omega))).trans e0, (hb.cell (p := ⟨X, 1, none⟩) (by first | (simp only; omega) | (simp; omega))).trans e1, (hb.cell (p := ⟨X, 2, none⟩) (by first | (simp only; omega) | (simp; omega))).trans e2, (hb.cell (p := ⟨X, 3, none⟩) (by first | (simp only; omega) | (simp; omega))).trans e3, (hb.cell (p := ⟨X, 4, none⟩) (by first | (simp only; omega) | (simp; omega))).trans e4, (hb.cell (p := ⟨X, 5, none⟩) (by first | (simp only; omega) | (simp; omega))).trans e5⟩
          | with_reducible exact ⟨cell_allocF ((hb.cell (p := ⟨X, 0, none⟩) (by first | (simp only; omega) | (simp; omega))).trans e0), cell_allocF ((hb.cell (p := ⟨X, 1, none⟩) (by first | (simp only; omega) | (simp; omega))).trans e1), cell_allocF ((hb.cell (p := ⟨X, 2, none⟩) (by first | (simp only; omega) | (simp; omega))).trans e2), cell_allocF ((hb.cell (p := ⟨X, 3, none⟩) (by first | (simp only; omega) | (simp; omega))).trans e3), cell_allocF ((hb.cell (p := ⟨X, 4, none⟩) (by first | (simp only; omega) | (simp; omega))).trans e4), cell_allocF ((hb.cell (p := ⟨X, 5, none⟩) (by first | (simp only; omega) | (simp; omega))).trans e5)⟩
          | with_reducible exact ⟨(hgrow.cell_far ⟨X, 0, none⟩ (by simp; omega) hxo).trans (cell_allocF ((hb.cell (p := ⟨X, 0, none⟩) (by first | (simp only; omega) | (simp; omega))).trans e0)), (hgrow.cell_far ⟨X, 1, none⟩ (by simp; omega) hxo).trans (cell_allocF ((hb.cell (p := ⟨X, 1, none⟩) (by first | (simp only; omega) | (simp; omega))).trans e1)), (hgrow.cell_far ⟨X, 2, none⟩ (by simp; omega) hxo).trans (cell_allocF ((hb.cell (p := ⟨X, 2, none⟩) (by first | (simp only; omega) | (simp; omega))).trans e2)), (hgrow.cell_far ⟨X, 3, none⟩ (by simp; omega) hxo).trans (cell_allocF ((hb.cell (p := ⟨X, 3, none⟩) (by first | (simp only; omega) | (simp; omega))).trans e3)), (hgrow.cell_far ⟨X, 4, none⟩ (by simp; omega) hxo).trans (cell_allocF ((hb.cell (p := ⟨X, 4, none⟩) (by first | (simp only; omega) | (simp; omega))).trans e4)), (hgrow.cell_far ⟨X, 5, none⟩ (by simp; omega) hxo).trans (cell_allocF ((hb.cell (p := ⟨X, 5, none⟩) (by first | (simp only; omega) | (simp; omega))).trans e5))⟩)
        (first
          | (go_at_call 33; refine (ref_ZoneRuleDay _ m wk wd t o y l m1 m2 k1 k2 h0 h1 y1 y2).mono ?_; rw [← HRD.out]; rintro e w2 ⟨rfl, hb⟩; have ownw := own_then4 (w := W1.drew) OWN1.out hb; have hx2 : X < w2.heap.size := Nat.lt_of_lt_of_le hX hb.size; have hbs2 : w.heap.size ≤ w2.heap.size := Nat.le_trans hBw (Nat.le_of_lt hx2))
          | (refine step_append_lies _ (by rfl) _ _ _ (by rfl) w.heap.size 43 i0 _ 3 32 Tryd.underlying22 hi hz0 hz1 hz2 rfl (by omega) v k ((yearTo y b xs k).flatMap encChg) (by rfl) (ownw.alloc _) ⟨w2.heap.size, 0, none⟩ 1 1 [.int .i64 A, .int .i64 o, .string l] (by rfl) (by rfl) (World.news_of_block (cs := #[.int .i64 A, .int .i64 o, .string l]) (t := 43) (fr := (0, 0)) (heap_alloc_new w2 _)) (by simp [Value.oneCell']) (by omega) (by unfold maxLen; omega) (by omega) (by simp; omega) (w2.heap.size + 1) (by simp) ?_; intro gg cap w4 hown' hgrow hat hltg))
      have ax4 := ((AX.out.drew.then_ hb).alloc (.cells #[.int .i64 A, .int .i64 o, .string l] 43)).grown6 hgrow hxo
      have bw4 : Below w.heap.size w w4 := (below_new (below_then BW1.out.drew hb) (.cells #[.int .i64 A, .int .i64 o, .string l] 43)).grown hgrow (by simp; omega) (fun b hb => own_far5 ownw hb)
      have y4 : w4.cell? ⟨X, 4, none⟩ = some (.int .i64 o) := ax4.cell 4
      have OWN4 := Lib.hid hown'; have BW4 := Lib.hid bw4
      clear hown' hgrow ax4 bw4
      go_wp2_with fail
      go_roundw
      case rel => exact ⟨k + 1, _, by omega, fun h => by omega, rfl, by go_num, by rw [HSUCC.out, List.flatMap_append]; have hc := HCH.out; rw [hc, ← HA.out]; simpa [encChg] using OWN4.out, BW4.out⟩
      case measure => first | (simp [intOf]; done) | (simp [intOf]; omega)
end Go.Proofs.YtjpbkkoflaajcabDoor
