import Derived.Test.YtlpbaljoanfogaaGreatDoorEraC
import Derived.Test.YtlpbaljoanfogaaGreatDoorMg4
import Derived.Deep.Cut
import Derived.Deep.CutRange
import Derived.Test.YtlpbaljoanfogaaGreatDoorMgV
import Derived.Test.YtlpbaljoanfogaaGreatDoorMg1
import Derived.Test.YtlpbaljoanfogaaGreatDoorMg5
set_option linter.unusedSimpArgs false
namespace Go.Proofs.YtlpbaljoanfogaaGreatDoor
set_option linter.unusedVariables false
set_option maxRecDepth 100000
open Go.RowKit Go.ChangeShapes Go.WideShapes Go.Shelf
def EraAns (xs : List (ByteArray × Int)) (row : List UInt8) (mode y mo d : Int) (Y F N E : Nat → Int) : Prop :=
  ∀ k s f, xs[k]? = some (s, f) → ∃ m' d', FromC row f (Y k) m' d' (F k) ∧ FromY row f (Y k) m' d' (F k) ∧ (F k = 0 → -10000 ≤ Y k ∧ Y k ≤ 10000) ∧
    (F k = 0 → ToC row (y + Y k - moreE mode) mo d (N k) (E k) ∧ ToY row (y + Y k - moreE mode) mo d (N k) (E k) ∧ (E k = 0 → -4000000 ≤ N k ∧ N k ≤ 4000000))
def nextE (xs : List (ByteArray × Int)) (k : Nat) (x : Int) : Bool := match xs[k + 1]? with | none => true | some p => decide (x < p.2)
def nameAt (xs : List (ByteArray × Int)) (k : Nat) : ByteArray := ((xs[k]?).map (·.1)).getD ⟨#[]⟩
def fromAt (xs : List (ByteArray × Int)) (k : Nat) : Int := ((xs[k]?).map (·.2)).getD 0
def keepE (xs : List (ByteArray × Int)) (name : ByteArray) (F N E : Nat → Int) (k : Nat) : Bool :=
  decide (F k = 0) && (decide (nameAt xs k = name) && (decide (E k = 0) && (decide (fromAt xs k ≤ N k) && nextE xs k (N k))))
theorem keepE_iff {xs : List (ByteArray × Int)} (hi : Inc (xs.map (·.2))) {name : ByteArray} {F N E : Nat → Int} {k : Nat} {f : Int} {s : ByteArray} (hk : xs[k]? = some (s, f)) (hf : F k = 0) (hn : s = name) (he : E k = 0) : keepE xs name F N E k = true ↔ PickE xs (N k) xs.length (k : Int) := by
  unfold keepE nameAt fromAt nextE
  rw [pickE_iff hi hk, decide_eq_true hf, decide_eq_true he, hk]
  simp only [Bool.true_and, Bool.and_eq_true, Option.map_some, Option.getD_some, decide_eq_true_eq, hn, true_and]
  cases xs[k + 1]? with
  | none => simp
  | some p => simp
theorem eraAns_exist {xs : List (ByteArray × Int)} {row : List UInt8} (hrow : row ∈ rowsL) (mode y mo d : Int) : ∃ Y F N E, EraAns xs row mode y mo d Y F N E := by
  have h : ∀ k : Nat, ∃ q : (Int × Int) × (Int × Int), ∀ s f, xs[k]? = some (s, f) → ∃ m' d', FromC row f q.1.1 m' d' q.1.2 ∧ FromY row f q.1.1 m' d' q.1.2 ∧ (q.1.2 = 0 → -10000 ≤ q.1.1 ∧ q.1.1 ≤ 10000) ∧
      (q.1.2 = 0 → ToC row (y + q.1.1 - moreE mode) mo d q.2.1 q.2.2 ∧ ToY row (y + q.1.1 - moreE mode) mo d q.2.1 q.2.2 ∧ (q.2.2 = 0 → -4000000 ≤ q.2.1 ∧ q.2.1 ≤ 4000000)) := by
    intro k
    cases hx : xs[k]? with
    | none => exact ⟨((0, 0), (0, 0)), fun s f h => by cases h⟩
    | some p =>
      obtain ⟨a, b, c, ee, h1, h2, h3⟩ := from_atR hrow p.2
      obtain ⟨n, e2, g1, g2, g3⟩ := to_atR hrow (y + a - moreE mode) mo d
      exact ⟨((a, ee), (n, e2)), fun s f h => by cases h; exact ⟨b, c, h2, h3, h1, fun _ => ⟨g2, g3, g1⟩⟩⟩
  obtain ⟨q, hq⟩ := Classical.skolem.1 h
  exact ⟨fun k => (q k).1.1, fun k => (q k).1.2, fun k => (q k).2.1, fun k => (q k).2.2, hq⟩
theorem own_ltE {w : World} {base : Nat} {e : TypeId} {size : Nat} {v : Value} {n : Nat} {xs : List Value} (h : w.ownsRow base e size v n xs) : ∀ q, v.ownBlock = some q → q < w.heap.size := by
  intro q hq
  rcases h.2 with ⟨rfl, _⟩ | ⟨g, cap, cur, rfl, hg, hat, rest⟩
  · cases hq
  · cases hq; exact (show At w g _ from hat).lt
theorem own_oneE {w w' : World} {base b : Nat} {e : TypeId} {size : Nat} {v : Value} {n : Nat} {xs : List Value} (h : w.ownsRow base e size v n xs) (k : OneKept b w w') (hb : ∀ q, v.ownBlock = some q → q ≠ b) : w'.ownsRow base e size v n xs := by
  refine ⟨h.1, ?_⟩
  rcases h.2 with h0 | ⟨g, cap, cur, hv, hg, hat, rest⟩
  · exact .inl h0
  · exact .inr ⟨g, cap, cur, hv, hg, At.oneKept (show At w g _ from hat) k (hb g (by rw [hv]; rfl)), rest⟩
def CalIn (w : World) (B : Nat) (a1 a2 : Option Addr) (n1 n2 : Nat) (ms : List Mon) (ls : List Int) : Prop := Months w B a1 n1 ms ∧ Ints w B a2 n2 ls
theorem CalIn.below {w w' : World} {B B' : Nat} {a1 a2 : Option Addr} {n1 n2 : Nat} {ms : List Mon} {ls : List Int} (h : CalIn w B a1 a2 n1 n2 ms ls) (hb : Below B' w w') (hB : B ≤ B') : CalIn w' B a1 a2 n1 n2 ms ls := ⟨h.1.below hb hB, h.2.below hb hB⟩
theorem CalIn.step {w w' : World} {B : Nat} {a1 a2 : Option Addr} {n1 n2 : Nat} {ms : List Mon} {ls : List Int} (h : CalIn w B a1 a2 n1 n2 ms ls) (hb : Below w.heap.size w w') (hB : B < w.heap.size) : CalIn w' B a1 a2 n1 n2 ms ls := h.below hb (Nat.le_of_lt hB)
theorem CalIn.at_ {w : World} {B : Nat} {a1 a2 : Option Addr} {n1 n2 : Nat} {ms : List Mon} {ls : List Int} (h : CalIn w B a1 a2 n1 n2 ms ls) (hB : B < w.heap.size) : CalAt w a1 a2 n1 n2 ms ls := ⟨h.1.more (Nat.le_of_lt hB), h.2.more (Nat.le_of_lt hB)⟩
abbrev reiO (s : ByteArray) (f : Int) : Obj := .cells #[.string s, .int .i64 f] 59
set_option maxHeartbeats 4000000 in
theorem era_Find_bad (w : World) (mx : Int) (hmx : w.cell? ⟨0, 0, none⟩ = some (.int .i64 mx)) (hlv : Lvl w) (hsg : Sgn w) (a : Option Addr) (n c : Nat) (xs : List (ByteArray × Int)) (h : Reigns w w.heap.size a n xs) (nl : List UInt8) (mode : Int) (name : ByteArray) (y mo d E : Int)
    (hE : (eraErr xs nl mode = E ∧ E ≠ 0) ∨ (eraErr xs nl mode = 0 ∧ ¬ (-10000 ≤ y ∧ y ≤ 10000) ∧ E = 3)) :
    Calls Tryz.prog 25 #[.slice a n c, .string ⟨nl.toArray⟩, .int .i64 mode, .string name, .agg #[.int .i64 y, .int .i64 mo, .int .i64 d]] w fun e w' => e = .returned (.tuple #[.slice none 0 0, .int .i64 E]) ∧ Below w.heap.size w w' := by
  have a0 := At.new w (dateO y mo d)
  have b0 := below_new (Below.refl w.heap.size w) (dateO y mo d)
  have hgm := World.block_lt_of_cell? _ _ hmx
  have hmx0 := (b0.cell (p := ⟨0, 0, none⟩) hgm).trans hmx
  have h0 := (h.below b0 (Nat.le_refl _)).more b0.size
  rcases hE with ⟨he, hne⟩ | ⟨he, hy, rfl⟩
  · have CO := Lib.hid (era_open_bad _ mx hmx0 (hlv.below b0) (hsg.below b0) a n c xs h0 nl mode E he hne)
    have hne' : (E != 0) = true := by simpa using hne
    clear h hmx hlv hsg he hne hmx0 h0
    go_enter Tryz.func25, Tryz.ntmps25
    go_wp2_with fail
    generalize World.alloc w _ = W0 at a0 b0 CO ⊢
    have B0 := Lib.hid b0
    clear b0
    refine CO.out.mono ?_
    rintro e w1 ⟨rfl, hb⟩
    have B1 := Lib.hid (below_new (below_then B0.out hb) zCalO)
    clear hb
    go_upto_region 2 with fail
    generalize World.alloc w1 _ = W1 at B1 ⊢
    go_wp2_with fail
    go_ret2
    exact ⟨rfl, B1.out⟩
  · obtain ⟨_, ⟨row, hro⟩, _⟩ := eraErr_zero he
    have CO := Lib.hid (era_open_ok _ mx hmx0 (hlv.below b0) (hsg.below b0) a n c xs h0 nl mode he row hro)
    clear h hmx hlv hsg he hro hmx0 h0
    have hcase : (decide (y < -10000) = true) ∨ (decide (y < -10000) = false ∧ decide (y > 10000) = true) := by simp; omega
    clear hy
    rcases hcase with q1 | ⟨q1, q2⟩
    all_goals
      go_enter Tryz.func25, Tryz.ntmps25
      go_wp2_with fail
      generalize World.alloc w _ = W0 at a0 b0 CO ⊢
      have B0 := Lib.hid b0
      clear b0
      refine CO.out.mono ?_
      rintro e w1 ⟨v, rfl, p1, q1, r1, p2, q2, r2, rfl, k1, k2, hcal, hb⟩
      have A1 := (a0.then_ hb).alloc (calAO row p1 p2 q1 r1 q2 r2)
      have B1 := Lib.hid (below_new (below_then B0.out hb) (calAO row p1 p2 q1 r1 q2 r2))
      clear hb hcal k1 k2 a0
      go_upto_region 2 with fail
      generalize World.alloc w1 _ = W1 at A1 B1 ⊢
      have x0 := A1.cell 0; have x1 := A1.cell 1; have x2 := A1.cell 2; simp at x0 x1 x2
      have hl := A1.lt
      go_wp2_with fail
      go_ret2
      exact ⟨rfl, B1.out⟩
set_option maxHeartbeats 8000000 in
theorem era_Find_ok (w : World) (mx : Int) (hmx : w.cell? ⟨0, 0, none⟩ = some (.int .i64 mx)) (hlv : Lvl w) (hsg : Sgn w) (a : Option Addr) (n c : Nat) (xs : List (ByteArray × Int)) (h : Reigns w w.heap.size a n xs) (nl : List UInt8) (mode : Int) (name : ByteArray) (hns : name.size ≤ 9223372036854775807) (y mo d : Int)
    (he : eraErr xs nl mode = 0) (hy1 : -10000 ≤ y) (hy2 : y ≤ 10000) (row : List UInt8) (hro : rowOf nl = some row) (Y F N E : Nat → Int) (hA : EraAns xs row mode y mo d Y F N E) :
    Calls Tryz.prog 25 #[.slice a n c, .string ⟨nl.toArray⟩, .int .i64 mode, .string name, .agg #[.int .i64 y, .int .i64 mo, .int .i64 d]] w fun e w' => ∃ v, e = .returned (.tuple #[v, .int .i64 0]) ∧ DaysR (outTo (keepE xs name F N E) N n) w v w' := by
  obtain ⟨i0, hi, hz0, hz1, hz2⟩ := info_parts infoIntR
  obtain ⟨hro1, _, hmode⟩ := eraErr_zero he
  obtain ⟨hn1, hn2, _⟩ := reignsOut_zero hro1
  have L1 := Lib.hid h.1; have m1 := h.2.1
  have hnn : 1 ≤ n := by rw [← L1.out]; exact hn1
  have hnm : n ≤ 30 := by rw [← L1.out]; exact hn2
  have a0 := At.new w (dateO y mo d)
  have b0 := below_new (Below.refl w.heap.size w) (dateO y mo d)
  have hgm := World.block_lt_of_cell? _ _ hmx
  have CO := Lib.hid (era_open_ok _ mx ((b0.cell (p := ⟨0, 0, none⟩) hgm).trans hmx) (hlv.below b0) (hsg.below b0) a n c xs ((h.below b0 (Nat.le_refl _)).more b0.size) nl mode he row hro)
  have CM := fun W => era_more mode W hmode
  obtain ⟨M, hM⟩ : ∃ M, M = moreE mode := ⟨_, rfl⟩
  have hM0 : 0 ≤ M ∧ M ≤ 1 := by rw [hM]; unfold moreE; split <;> omega
  obtain ⟨hM1, hM2⟩ := hM0
  unfold EraAns at hA
  rw [← hM] at hA CM
  have HA := Lib.hid hA
  have CM := Lib.hid CM
  have MEM := Lib.hid (fun (k : Nat) (hk : k ≤ n) => outTo_mem (keepE xs name F N E) N (n := n) (fun k hk hck => by
    have hx := List.getElem?_eq_getElem (show k < xs.length by rw [L1.out]; exact hk)
    obtain ⟨m', d', _, _, _, hr⟩ := hA k (xs[k]'(by rw [L1.out]; exact hk)).1 (xs[k]'(by rw [L1.out]; exact hk)).2 hx
    unfold keepE at hck
    rw [Bool.and_eq_true, Bool.and_eq_true, Bool.and_eq_true] at hck
    have h1 := of_decide_eq_true hck.1
    have h2 := of_decide_eq_true hck.2.2.1
    have := (hr h1).2.2 h2
    exact ⟨by omega, by omega⟩) k hk)
  obtain ⟨b, off, rfl, hbB, hcs0⟩ := h.open_ (by omega)
  have CS0 := Lib.hid hcs0; have HBB := Lib.hid hbB
  have q1 : decide (y < -10000) = false := by simp; omega
  have q2 : decide (y > 10000) = false := by simp; omega
  clear h hmx hlv hsg he hro hA hgm hmode hro1 hn1 hn2 hcs0 hM
  go_enter Tryz.func25, Tryz.ntmps25
  go_wp2_with fail
  generalize World.alloc w _ = W0 at a0 b0 CO ⊢
  have B0 := Lib.hid b0
  clear b0
  refine CO.out.mono ?_
  rintro e w1 ⟨v, rfl, p1, u1, r1, p2, u2, r2, rfl, k1, k2, hcal, hb⟩
  have o1 := At.new w1 (calAO row p1 p2 u1 r1 u2 r2)
  have D1 := Lib.hid ((a0.then_ hb).alloc (calAO row p1 p2 u1 r1 u2 r2))
  have hc0 : CalIn w1 w1.heap.size p1 p2 u1 u2 (msL row) (lsL row) := hcal
  have HC1 := Lib.hid (hc0.below (below_new (Below.refl w1.heap.size w1) (calAO row p1 p2 u1 r1 u2 r2)) (Nat.le_refl _))
  have B1 := Lib.hid (below_new (below_then B0.out hb) (calAO row p1 p2 u1 r1 u2 r2))
  have K1 := Lib.hid k1
  obtain ⟨T, hT⟩ : ∃ T, T = w1.heap.size := ⟨_, rfl⟩
  rw [← hT] at o1 HC1
  have hTw : w.heap.size < T := by rw [hT]; exact (a0.then_ hb).lt
  have HTW := Lib.hid hTw
  clear hb hcal hc0 k1 k2 a0 CO hTw
  go_upto_region 2 with fail
  rw [← hT]
  generalize World.alloc w1 _ = W1 at o1 D1 HC1 B1 ⊢
  clear hT
  have A1 := Lib.hid o1
  have dd := D1.out
  have x0 := dd.cell 0; have x1 := dd.cell 1; have x2 := dd.cell 2; simp at x0 x1 x2
  have hl := dd.lt
  clear o1 dd
  go_wp2_with fail
  clear x0 x1 x2 hl
  go_loopw [14, 15, 16, 17, 18, 19, 40] (fun v _ _ _ _ _ i wr => ∃ (k : Nat) (V : Value), V = v ∧ k ≤ n ∧ i = .int .i64 k ∧ wr.ownsRow (T + 1) 3 1 v (outTo (keepE xs name F N E) N k).length ((outTo (keepE xs name F N E) N k).map (Value.int .i64)) ∧ At wr w.heap.size (dateO y mo d) ∧ At wr T (calAO row p1 p2 u1 r1 u2 r2) ∧ CalIn wr T p1 p2 u1 u2 (msL row) (lsL row) ∧ Below w.heap.size w wr) (fun _ _ _ _ _ _ i _ => n - (intOf i).toNat)
  case atStart => exact ⟨0, _, rfl, by omega, rfl, World.ownsRow_nil _ _ _ _, D1.out, A1.out, HC1.out, B1.out⟩
  case round =>
    obtain ⟨k, V, rfl, hk, rfl, hown, hd, ha, hcl, hB⟩ := hrel
    have OWN := Lib.hid hown; have HAT := Lib.hid ha; have HDT := Lib.hid hd; have HB := Lib.hid hB; have HCL := Lib.hid hcl
    clear hown hd D1 A1 B1 HC1 hcl
    have hzs := hB.size
    have hbz : b < wr.heap.size := by omega
    by_cases hlt : k < n
    · obtain ⟨s, f, hc1, hc2, hx, hsz, f1, f2⟩ := CS0.out k hlt
      obtain ⟨m', d', hF, _, hYb, hT⟩ := HA.out k s f hx
      have c1 := (hB.cell (p := ⟨b, off + k * 2, none⟩) hbB).trans hc1
      have c2 := (hB.cell (p := ⟨b, off + k * 2 + 1, none⟩) hbB).trans hc2
      have HX := Lib.hid hx; have HF := Lib.hid hF; have HYB := Lib.hid hYb; have HTO := Lib.hid hT
      have hnA : nameAt xs k = s := by unfold nameAt; rw [hx]; rfl
      have hfA : fromAt xs k = f := by unfold fromAt; rw [hx]; rfl
      have HNA := Lib.hid hnA; have HFA := Lib.hid hfA
      clear hc1 hc2 hx hF hYb hT hnA hfA ha hB
      have o1 := At.new wr (reiO s f)
      have A2 := Lib.hid (HAT.out.alloc (reiO s f))
      have D2 := Lib.hid (HDT.out.alloc (reiO s f))
      have B2 := Lib.hid (below_new HB.out (reiO s f))
      have C2 := Lib.hid (HCL.out.step (below_new (Below.refl _ _) (reiO s f)) HAT.out.lt)
      have OWN2 := Lib.hid (own_thenS OWN.out (below_new (Below.refl wr.heap.size wr) (reiO s f)))
      obtain ⟨TP, hTP⟩ : ∃ T, T = wr.heap.size := ⟨_, rfl⟩
      rw [← hTP] at o1
      go_upto_region 10 with fail
      rw [← hTP]
      clear c1 c2 hzs hbz OWN HAT HDT HB HCL
      generalize World.alloc wr _ = W2 at o1 A2 D2 B2 C2 OWN2 ⊢
      clear hTP
      have O2 := Lib.hid o1
      have aa := A2.out
      have x0 := o1.cell 0; have x1 := o1.cell 1; simp at x0 x1
      have z0 := aa.cell 0; have z1 := aa.cell 1; have z2 := aa.cell 2; have z3 := aa.cell 3; have z4 := aa.cell 4; simp at z0 z1 z2 z3 z4
      have hl := o1.lt; have hl2 := aa.lt
      clear o1 aa
      go_wp2_with fail
      clear x0 x1 z0 z1 z2 z3 z4 hl hl2
      refine (HF.out W2 p1 p2 u1 r1 u2 r2 K1.out (C2.out.at_ A2.out.lt)).mono ?_
      obtain ⟨Yk, hYk⟩ : ∃ q, q = Y k := ⟨_, rfl⟩
      obtain ⟨Fk, hFk⟩ : ∃ q, q = F k := ⟨_, rfl⟩
      obtain ⟨Nk, hNk⟩ : ∃ q, q = N k := ⟨_, rfl⟩
      obtain ⟨Ek, hEk⟩ : ∃ q, q = E k := ⟨_, rfl⟩
      rw [← hYk, ← hFk]
      rw [← hYk, ← hFk] at HYB HTO
      rw [← hNk, ← hEk] at HTO
      have HNK := Lib.hid hNk; have HEK := Lib.hid hEk; have HFK := Lib.hid hFk
      clear hNk hEk hYk hFk HF
      rintro e w4 ⟨rfl, hb⟩
      have o4 := At.new w4 (dateO Yk m' d')
      have O4 := Lib.hid ((O2.out.then_ hb).alloc (dateO Yk m' d'))
      have A4 := Lib.hid ((A2.out.then_ hb).alloc (dateO Yk m' d'))
      have D4 := Lib.hid ((D2.out.then_ hb).alloc (dateO Yk m' d'))
      have C4 := Lib.hid ((C2.out.step hb A2.out.lt).step (below_new (Below.refl _ _) (dateO Yk m' d')) (A2.out.then_ hb).lt)
      have B4 := Lib.hid (below_new (below_then B2.out hb) (dateO Yk m' d'))
      have OWN4 := Lib.hid (own_thenS (own_thenS OWN2.out hb) (below_new (Below.refl w4.heap.size w4) (dateO Yk m' d')))
      obtain ⟨TD, hTD⟩ : ∃ T, T = w4.heap.size := ⟨_, rfl⟩
      rw [← hTD] at o4
      clear hb O2 A2 D2 B2 C2 OWN2
      go_upto_region 11 with fail
      rw [← hTD]
      generalize World.alloc w4 _ = W4 at o4 O4 A4 D4 C4 B4 OWN4 ⊢
      clear hTD
      have Q4 := Lib.hid o4
      have oo := O4.out
      have x0 := oo.cell 0; have x1 := oo.cell 1; simp at x0 x1
      have hl := oo.lt
      clear o4 oo
      have NOREL := Lib.hid (fun (hc : keepE xs name F N E k = false) (W : World) (h : W.ownsRow (T + 1) 3 1 V (outTo (keepE xs name F N E) N k).length ((outTo (keepE xs name F N E) N k).map (Value.int .i64))) => show (W.ownsRow (T + 1) 3 1 V (outTo (keepE xs name F N E) N (k + 1)).length ((outTo (keepE xs name F N E) N (k + 1)).map (Value.int .i64))) from by rw [outTo_no hc]; exact h)
      by_cases hF0 : Fk = 0
      case neg =>
        have hfe : (Fk != 0) = true := by simpa using hF0
        have HC := Lib.hid (show keepE xs name F N E k = false from by unfold keepE; rw [← HFK.out, decide_eq_false hF0]; rfl)
        clear hF0
        go_wp2_with fail
        go_roundw
        case rel => exact ⟨k + 1, _, rfl, by omega, by go_num, NOREL.out HC.out _ OWN4.out, D4.out, A4.out, C4.out, B4.out⟩
        case measure => simp [intOf]; omega
      subst hF0
      by_cases hnm' : s = name
      case neg =>
        have hne : (s.toList != name.toList) = true := by
          rw [bne_iff_ne, Lib.toList_data, Lib.toList_data]
          intro e
          exact hnm' (by cases s; cases name; simp at e; rw [e])
        have hne1 : (s.toList == name.toList) = false := by rw [← Bool.not_eq_true]; intro e; rw [bne, e] at hne; cases hne
        have HC := Lib.hid (show keepE xs name F N E k = false from by unfold keepE; rw [HNA.out, decide_eq_false hnm']; simp)
        clear hnm'
        go_wp2_with fail
        go_roundw
        case rel => exact ⟨k + 1, _, rfl, by omega, by go_num, NOREL.out HC.out _ OWN4.out, D4.out, A4.out, C4.out, B4.out⟩
        case measure => simp [intOf]; omega
      subst hnm'
      obtain ⟨y3, y4⟩ := HYB.out rfl
      obtain ⟨hTC, _, hNb⟩ := HTO.out rfl
      have HTC := Lib.hid hTC; have HNB := Lib.hid hNb
      clear hTC hNb HYB HTO x0 x1 hl
      have hw1 : IntKind.i64.wrap (y + Yk) = y + Yk := IntWalk.i64_in _ (by omega)
      have hw2 : IntKind.i64.wrap (y + Yk - M) = y + Yk - M := IntWalk.i64_in _ (by omega)
      have CT2 := Lib.hid (fun (W : World) (hC : CalAt W p1 p2 u1 u2 (msL row) (lsL row)) => HTC.out W p1 p2 u1 r1 u2 r2 K1.out hC)
      have hsne : (s.toList != s.toList) = false := by simp
      have hsne1 : (s.toList == s.toList) = true := by simp
      have oo := O4.out
      have x0 := oo.cell 0; have x1 := oo.cell 1; simp at x0 x1
      have hl := oo.lt
      clear oo
      go_upto_region 12 with fail
      clear x0 x1 hl
      generalize hWD : W4 = W5 at O4 A4 D4 C4 B4 OWN4 Q4 ⊢
      clear hWD
      refine wp_region_held_drew (S := fun wx => At wx T (calAO row p1 p2 u1 r1 u2 r2) ∧ At wx w.heap.size (dateO y mo d) ∧ At wx TD (dateO Yk m' d') ∧ At wx TP (reiO s f) ∧ CalIn wx T p1 p2 u1 u2 (msL row) (lsL row) ∧ wx.ownsRow (T + 1) 3 1 V (outTo (keepE xs s F N E) N k).length ((outTo (keepE xs s F N E) N k).map (Value.int .i64)) ∧ Below w.heap.size w wx) (by kernel_rfl) ?_ (fun hHeld => ?_)
      · (try dsimp only); exact ⟨A4.out.drew, D4.out.drew, Q4.out.drew, O4.out.drew, C4.out.step (Below.refl _ _).drew A4.out.lt, own_thenS OWN4.out (Below.refl _ _).drew, B4.out.drew⟩
      refine lex_take (i := 0) (v := ?_) rfl (by kernel_rfl) (by kernel_rfl) (by kernel_rfl) (fun _ _ _ h => h) (by rfl) ?_ (by assumption) ?_
      rotate_left
      · (intro w hSw; (try dsimp only at hSw); have x0 := hSw.1.cell 0; have x1 := hSw.1.cell 1; have x2 := hSw.1.cell 2; have x3 := hSw.1.cell 3; have x4 := hSw.1.cell 4; have z0 := hSw.2.1.cell 0; have z1 := hSw.2.1.cell 1; have z2 := hSw.2.1.cell 2; have u0 := hSw.2.2.1.cell 0; go_simp; try with_reducible rfl)
      try simp only [Act.put, List.setIfInBounds_toArray, List.set_cons_zero, List.set_cons_succ]
      refine lex_take (i := 1) (v := ?_) rfl (by kernel_rfl) (by kernel_rfl) (by kernel_rfl) (fun _ _ _ h => h) (by rfl) ?_ (by assumption) ?_
      rotate_left
      · (intro w hSw; (try dsimp only at hSw); have x0 := hSw.1.cell 0; have x1 := hSw.1.cell 1; have x2 := hSw.1.cell 2; have x3 := hSw.1.cell 3; have x4 := hSw.1.cell 4; have z0 := hSw.2.1.cell 0; have z1 := hSw.2.1.cell 1; have z2 := hSw.2.1.cell 2; have u0 := hSw.2.2.1.cell 0; go_simp; try with_reducible rfl)
      try simp only [Act.put, List.setIfInBounds_toArray, List.set_cons_zero, List.set_cons_succ]
      refine lex_take (i := 2) (v := ?_) rfl (by kernel_rfl) (by kernel_rfl) (by kernel_rfl) (fun _ _ _ h => h) (by rfl) ?_ (by assumption) ?_
      rotate_left
      · (intro w hSw; (try dsimp only at hSw); have x0 := hSw.1.cell 0; have x1 := hSw.1.cell 1; have x2 := hSw.1.cell 2; have x3 := hSw.1.cell 3; have x4 := hSw.1.cell 4; have z0 := hSw.2.1.cell 0; have z1 := hSw.2.1.cell 1; have z2 := hSw.2.1.cell 2; have u0 := hSw.2.2.1.cell 0; go_simp; try with_reducible rfl)
      try simp only [Act.put, List.setIfInBounds_toArray, List.set_cons_zero, List.set_cons_succ]
      refine lex_take (i := 3) (v := ?_) rfl (by kernel_rfl) (by kernel_rfl) (by kernel_rfl) (fun _ _ _ h => h) (by rfl) ?_ (by assumption) ?_
      rotate_left
      · (intro w hSw; (try dsimp only at hSw); have x0 := hSw.1.cell 0; have x1 := hSw.1.cell 1; have x2 := hSw.1.cell 2; have x3 := hSw.1.cell 3; have x4 := hSw.1.cell 4; have z0 := hSw.2.1.cell 0; have z1 := hSw.2.1.cell 1; have z2 := hSw.2.1.cell 2; have u0 := hSw.2.2.1.cell 0; go_simp; try with_reducible rfl)
      try simp only [Act.put, List.setIfInBounds_toArray, List.set_cons_zero, List.set_cons_succ]
      refine lex_take (i := 4) (v := ?_) rfl (by kernel_rfl) (by kernel_rfl) (by kernel_rfl) (fun _ _ _ h => h) (by rfl) ?_ (by assumption) ?_
      rotate_left
      · (intro w hSw; (try dsimp only at hSw); have x0 := hSw.1.cell 0; have x1 := hSw.1.cell 1; have x2 := hSw.1.cell 2; have x3 := hSw.1.cell 3; have x4 := hSw.1.cell 4; have z0 := hSw.2.1.cell 0; have z1 := hSw.2.1.cell 1; have z2 := hSw.2.1.cell 2; have u0 := hSw.2.2.1.cell 0; go_simp; try with_reducible rfl)
      try simp only [Act.put, List.setIfInBounds_toArray, List.set_cons_zero, List.set_cons_succ]
      refine lex_take (i := 5) (v := ?_) rfl (by kernel_rfl) (by kernel_rfl) (by kernel_rfl) (fun _ _ _ h => h) (by rfl) ?_ (by assumption) ?_
      rotate_left
      · (intro w hSw; (try dsimp only at hSw); have x0 := hSw.1.cell 0; have x1 := hSw.1.cell 1; have x2 := hSw.1.cell 2; have x3 := hSw.1.cell 3; have x4 := hSw.1.cell 4; have z0 := hSw.2.1.cell 0; have z1 := hSw.2.1.cell 1; have z2 := hSw.2.1.cell 2; have u0 := hSw.2.2.1.cell 0; go_simp; try with_reducible rfl)
      try simp only [Act.put, List.setIfInBounds_toArray, List.set_cons_zero, List.set_cons_succ]
      refine lex_take (i := 6) (v := ?_) rfl (by kernel_rfl) (by kernel_rfl) (by kernel_rfl) (fun _ _ _ h => h) (by rfl) ?_ (by assumption) ?_
      rotate_left
      · (intro w hSw; (try dsimp only at hSw); have x0 := hSw.1.cell 0; have x1 := hSw.1.cell 1; have x2 := hSw.1.cell 2; have x3 := hSw.1.cell 3; have x4 := hSw.1.cell 4; have z0 := hSw.2.1.cell 0; have z1 := hSw.2.1.cell 1; have z2 := hSw.2.1.cell 2; have u0 := hSw.2.2.1.cell 0; go_simp; try with_reducible rfl)
      try simp only [Act.put, List.setIfInBounds_toArray, List.set_cons_zero, List.set_cons_succ]
      refine lex_take (i := 9) (v := ?_) rfl (by kernel_rfl) (by kernel_rfl) (by kernel_rfl) (fun _ _ _ h => h) (by rfl) ?_ (by assumption) ?_
      rotate_left
      · (intro w hSw; (try dsimp only at hSw); have x0 := hSw.1.cell 0; have x1 := hSw.1.cell 1; have x2 := hSw.1.cell 2; have x3 := hSw.1.cell 3; have x4 := hSw.1.cell 4; have z0 := hSw.2.1.cell 0; have z1 := hSw.2.1.cell 1; have z2 := hSw.2.1.cell 2; have u0 := hSw.2.2.1.cell 0; go_simp; try with_reducible rfl)
      try simp only [Act.put, List.setIfInBounds_toArray, List.set_cons_zero, List.set_cons_succ]
      refine lex_take (i := 10) (v := ?_) rfl (by kernel_rfl) (by kernel_rfl) (by kernel_rfl) (fun _ _ _ h => h) (by rfl) ?_ (by assumption) ?_
      rotate_left
      · (intro w hSw; (try dsimp only at hSw); have x0 := hSw.1.cell 0; have x1 := hSw.1.cell 1; have x2 := hSw.1.cell 2; have x3 := hSw.1.cell 3; have x4 := hSw.1.cell 4; have z0 := hSw.2.1.cell 0; have z1 := hSw.2.1.cell 1; have z2 := hSw.2.1.cell 2; have u0 := hSw.2.2.1.cell 0; go_simp; try with_reducible rfl)
      try simp only [Act.put, List.setIfInBounds_toArray, List.set_cons_zero, List.set_cons_succ]
      refine lex_take (i := 11) (v := ?_) rfl (by kernel_rfl) (by kernel_rfl) (by kernel_rfl) (fun _ _ _ h => h) (by rfl) ?_ (by assumption) ?_
      rotate_left
      · (intro w hSw; (try dsimp only at hSw); have x0 := hSw.1.cell 0; have x1 := hSw.1.cell 1; have x2 := hSw.1.cell 2; have x3 := hSw.1.cell 3; have x4 := hSw.1.cell 4; have z0 := hSw.2.1.cell 0; have z1 := hSw.2.1.cell 1; have z2 := hSw.2.1.cell 2; have u0 := hSw.2.2.1.cell 0; go_simp; try with_reducible rfl)
      try simp only [Act.put, List.setIfInBounds_toArray, List.set_cons_zero, List.set_cons_succ]
      refine lex_take (i := 12) (v := ?_) rfl (by kernel_rfl) (by kernel_rfl) (by kernel_rfl) (fun _ _ _ h => h) (by rfl) ?_ (by assumption) ?_
      rotate_left
      · (intro w hSw; (try dsimp only at hSw); have x0 := hSw.1.cell 0; have x1 := hSw.1.cell 1; have x2 := hSw.1.cell 2; have x3 := hSw.1.cell 3; have x4 := hSw.1.cell 4; have z0 := hSw.2.1.cell 0; have z1 := hSw.2.1.cell 1; have z2 := hSw.2.1.cell 2; have u0 := hSw.2.2.1.cell 0; go_simp; try with_reducible rfl)
      try simp only [Act.put, List.setIfInBounds_toArray, List.set_cons_zero, List.set_cons_succ]
      refine lex_step (i := 7) rfl (by kernel_rfl) (by rfl) (fun Kx hKx => ?_)
      (go_simp; go_at_call 45; (with_reducible refine (CM.out _).mono ?_); rintro e w5 ⟨rfl, rfl⟩; try go_wp2_with fail)
      refine hKx.out _ _ ?_ (fun hHeld => ?_)
      · (try dsimp only); exact hHeld
      clear hKx Kx
      try simp only [Act.put, List.setIfInBounds_toArray, List.set_cons_zero, List.set_cons_succ]
      refine lex_take (i := 8) (v := ?_) rfl (by kernel_rfl) (by kernel_rfl) (by kernel_rfl) (fun _ _ _ h => h) (by rfl) ?_ (by assumption) ?_
      rotate_left
      · (intro w hSw; (try dsimp only at hSw); have x0 := hSw.1.cell 0; have x1 := hSw.1.cell 1; have x2 := hSw.1.cell 2; have x3 := hSw.1.cell 3; have x4 := hSw.1.cell 4; have z0 := hSw.2.1.cell 0; have z1 := hSw.2.1.cell 1; have z2 := hSw.2.1.cell 2; have u0 := hSw.2.2.1.cell 0; go_simp; try with_reducible rfl)
      try simp only [Act.put, List.setIfInBounds_toArray, List.set_cons_zero, List.set_cons_succ]
      refine lex_take (i := 13) (v := ?_) rfl (by kernel_rfl) (by kernel_rfl) (by kernel_rfl) (fun _ _ _ h => h) (by rfl) ?_ (by assumption) ?_
      rotate_left
      · (intro w hSw; (try dsimp only at hSw); have x0 := hSw.1.cell 0; have x1 := hSw.1.cell 1; have x2 := hSw.1.cell 2; have x3 := hSw.1.cell 3; have x4 := hSw.1.cell 4; have z0 := hSw.2.1.cell 0; have z1 := hSw.2.1.cell 1; have z2 := hSw.2.1.cell 2; have u0 := hSw.2.2.1.cell 0; go_simp; try with_reducible rfl)
      try simp only [Act.put, List.setIfInBounds_toArray, List.set_cons_zero, List.set_cons_succ]
      refine lex_step (i := 14) rfl (by kernel_rfl) (by rfl) (fun Kx hKx => ?_)
      (have hqC := hHeld.2.2.2.2.1.at_ hHeld.1.lt; go_simp; go_at_call 47; (with_reducible refine (CT2.out _ hqC).mono ?_); rintro e w5 ⟨rfl, hb5⟩; try go_wp2_with fail)
      refine hKx.out _ _ ?_ (fun hHeld => ?_)
      · (try dsimp only); exact ⟨hHeld.1.then_ hb5, hHeld.2.1.then_ hb5, hHeld.2.2.1.then_ hb5, hHeld.2.2.2.1.then_ hb5, hHeld.2.2.2.2.1.step hb5 hHeld.1.lt, own_thenS hHeld.2.2.2.2.2.1 hb5, below_then hHeld.2.2.2.2.2.2 hb5⟩
      clear hKx Kx
      try simp only [Act.put, List.setIfInBounds_toArray, List.set_cons_zero, List.set_cons_succ]
      refine lex_take (i := 15) (v := ?_) rfl (by kernel_rfl) (by kernel_rfl) (by kernel_rfl) (fun _ _ _ h => h) (by rfl) ?_ (by assumption) ?_
      rotate_left
      · (intro w hSw; (try dsimp only at hSw); go_simp; try with_reducible rfl)
      try simp only [Act.put, List.setIfInBounds_toArray, List.set_cons_zero, List.set_cons_succ]
      refine lex_take (i := 16) (v := ?_) rfl (by kernel_rfl) (by kernel_rfl) (by kernel_rfl) (fun _ _ _ h => h) (by rfl) ?_ (by assumption) ?_
      rotate_left
      · (intro w hSw; (try dsimp only at hSw); go_simp; try with_reducible rfl)
      try simp only [Act.put, List.setIfInBounds_toArray, List.set_cons_zero, List.set_cons_succ]
      refine lex_take (i := 17) (v := ?_) rfl (by kernel_rfl) (by kernel_rfl) (by kernel_rfl) (fun _ _ _ h => h) (by rfl) ?_ (by assumption) ?_
      rotate_left
      · (intro w hSw; (try dsimp only at hSw); go_simp; try with_reducible rfl)
      try simp only [Act.put, List.setIfInBounds_toArray, List.set_cons_zero, List.set_cons_succ]
      refine lex_take (i := 18) (v := ?_) rfl (by kernel_rfl) (by kernel_rfl) (by kernel_rfl) (fun _ _ _ h => h) (by rfl) ?_ (by assumption) ?_
      rotate_left
      · (intro w hSw; (try dsimp only at hSw); go_simp; try with_reducible rfl)
      try simp only [Act.put, List.setIfInBounds_toArray, List.set_cons_zero, List.set_cons_succ]
      refine lex_take (i := 19) (v := ?_) rfl (by kernel_rfl) (by kernel_rfl) (by kernel_rfl) (fun _ _ _ h => h) (by rfl) ?_ (by assumption) ?_
      rotate_left
      · (intro w hSw; (try dsimp only at hSw); go_simp; try with_reducible rfl)
      try simp only [Act.put, List.setIfInBounds_toArray, List.set_cons_zero, List.set_cons_succ]
      refine wpAnyH_done (by kernel_rfl) ?_ _
      clear O4 A4 D4 C4 B4 OWN4 Q4 hw1 hw2
      obtain ⟨A7, D7, _, O7, C7, OWN7, B7⟩ := hHeld
      have A7 := Lib.hid A7
      have D7 := Lib.hid D7
      have O7 := Lib.hid O7
      have C7 := Lib.hid C7
      have OWN7 := Lib.hid OWN7
      have B7 := Lib.hid B7
      have x1 : w5.cell? ⟨TP, 1, none⟩ = some (.int .i64 f) := O7.out.cell 1
      have hl := O7.out.lt
      have hwk : IntKind.i64.wrap ((k : Int) + 1) = (k : Int) + 1 := IntWalk.i64_in _ (by omega)
      by_cases he : Ek = 0
      case neg =>
        have hee : (Ek == 0) = false := by simpa using he
        have HC := Lib.hid (show keepE xs s F N E k = false from by unfold keepE; rw [← HEK.out, decide_eq_false he]; simp)
        clear he
        go_wp2_with fail
        go_roundw
        case rel => exact ⟨k + 1, _, rfl, by omega, by go_num, NOREL.out HC.out _ OWN7.out, D7.out, A7.out, C7.out, B7.out⟩
        case measure => simp [intOf]; omega
      subst he
      by_cases hle : f ≤ Nk
      case neg =>
        have hge : decide (Nk ≥ f) = false := by simpa using hle
        have hge2 : decide (f ≤ Nk) = false := by simpa using hle
        have HC := Lib.hid (show keepE xs s F N E k = false from by unfold keepE; rw [HFA.out, ← HNK.out, decide_eq_false hle]; simp)
        clear hle
        go_wp2_with fail
        go_roundw
        case rel => exact ⟨k + 1, _, rfl, by omega, by go_num, NOREL.out HC.out _ OWN7.out, D7.out, A7.out, C7.out, B7.out⟩
        case measure => simp [intOf]; omega
      have hge : decide (Nk ≥ f) = true := by simpa using hle
      have hge2 : decide (f ≤ Nk) = true := by simpa using hle
      have HLE := Lib.hid hle; clear hle
      have NB := Lib.hid (HNB.out rfl)
      have LEN := Lib.hid (outTo_len (keepE xs s F N E) N k)
      obtain ⟨m, hm⟩ : ∃ m, m = (outTo (keepE xs s F N E) N k).length := ⟨_, rfl⟩
      have hm30 : m ≤ 30 := by rw [hm]; have := LEN.out; omega
      have YESREL := Lib.hid (fun (hc : keepE xs s F N E k = true) (v' : Value) (W : World) (h : W.ownsRow (T + 1) 3 1 v' (m + 1) ((outTo (keepE xs s F N E) N k).map (Value.int .i64) ++ [.int .i64 Nk])) => show (W.ownsRow (T + 1) 3 1 v' (outTo (keepE xs s F N E) N (k + 1)).length ((outTo (keepE xs s F N E) N (k + 1)).map (Value.int .i64))) from by
        rw [outTo_yes hc, List.length_append, ← hm, List.map_append, ← HNK.out]; exact h)
      have OWN5 := Lib.hid (show w5.ownsRow (T + 1) 3 1 V m ((outTo (keepE xs s F N E) N k).map (Value.int .i64)) from by rw [hm]; exact OWN7.out)
      have OWNX := Lib.hid OWN7.out
      clear OWN7 LEN hm
      have hs4 := A7.out.lt
      have hz7 := B7.out.size
      by_cases hkn : k + 1 = n
      · have hkk : ((k : Int) + 1 == (n : Int)) = true := by simpa using (by omega : (k : Int) + 1 = (n : Int))
        have HC := Lib.hid (show keepE xs s F N E k = true from by
          unfold keepE nextE
          rw [HNA.out, HFA.out, ← HNK.out, ← HEK.out, ← HFK.out, decide_eq_true HLE.out, List.getElem?_eq_none (by rw [L1.out]; omega)]; simp)
        clear hkn
        go_wp2_with (at_builtin; refine wpList_append_own _ rfl _ _ 34 rfl (T + 1) 3 i0 (.int .i64 0) 1 8 Tryz.underlying34 hi hz0 hz1 hz2 rfl (by decide) _ _ _ rfl (OWN5.out.alloc _) ⟨w5.heap.size, 0, none⟩ 1 1 [.int .i64 Nk] rfl rfl (World.news_of_block (cs := #[.int .i64 Nk]) (t := 3) (fr := (0, 0)) (heap_alloc_new w5 _)) (by simp [Value.oneCell']) (by unfold maxLen; omega) (by omega) (by first | omega | (simp; omega)) ?_; intro v' w4 hown' hgrow _)
        have OWN6 := Lib.hid (YESREL.out HC.out _ _ hown')
        have A6 := Lib.hid ((A7.out.alloc (.cells #[.int .i64 Nk] 3)).grown' hgrow (own_aboveL OWN5.out (by omega)))
        have D6 := Lib.hid ((D7.out.alloc (.cells #[.int .i64 Nk] 3)).grown' hgrow (own_aboveL OWN5.out (by have := HTW.out; omega)))
        have C6 := Lib.hid (C7.out.below (B' := T + 1) (((Below.refl (T + 1) w5).alloc (by omega) (.cells #[.int .i64 Nk] 3)).grown hgrow (by simp; omega) (fun bb hbb => by
          rcases Nat.lt_or_ge bb (T + 1) with h | h
          · exact absurd hbb.symm (own_aboveL OWN5.out h)
          · omega)) (by omega))
        have B6 := Lib.hid ((below_new B7.out (.cells #[.int .i64 Nk] 3)).grown hgrow (by simp; omega) (fun bb hbb => by
          have := HTW.out
          rcases Nat.lt_or_ge bb (T + 1) with h | h
          · exact absurd hbb.symm (own_aboveL OWN5.out h)
          · omega))
        clear hown' hgrow OWN5
        go_wp2_with fail
        go_roundw
        case rel => exact ⟨k + 1, _, rfl, by omega, by go_num, OWN6.out, D6.out, A6.out, C6.out, B6.out⟩
        case measure => simp [intOf]; omega
      have hkk : ((k : Int) + 1 == (n : Int)) = false := by rw [beq_eq_false_iff_ne]; omega
      obtain ⟨s', f', hc1', hc2', hx', hsz', f1', f2'⟩ := CS0.out (k + 1) (by omega)
      have c1 := (B7.out.cell (p := ⟨b, off + (k + 1) * 2 + 1, none⟩) HBB.out).trans hc2'
      have hbz : b < w5.heap.size := by have := B7.out.size; have := HBB.out; omega
      have HX' := Lib.hid hx'
      clear hc1' hc2' hx'
      have hltk : (k : Int) + 1 < (n : Int) := by omega
      have htn : ((k : Int) + 1).toNat = k + 1 := by omega
      have hge0 : (0 : Int) ≤ (k : Int) + 1 := by omega
      have hkn1 : k + 1 < n := by omega
      by_cases hlt2 : Nk < f'
      · have hdl : decide (Nk < f') = true := by simpa using hlt2
        have HC := Lib.hid (show keepE xs s F N E k = true from by
          unfold keepE nextE
          rw [HNA.out, HFA.out, ← HNK.out, ← HEK.out, ← HFK.out, decide_eq_true HLE.out, HX'.out]; simpa using hlt2)
        clear hlt2 hkn
        go_wp2_with (at_builtin; refine wpList_append_own _ rfl _ _ 34 rfl (T + 1) 3 i0 (.int .i64 0) 1 8 Tryz.underlying34 hi hz0 hz1 hz2 rfl (by decide) _ _ _ rfl (OWN5.out.alloc _) ⟨w5.heap.size, 0, none⟩ 1 1 [.int .i64 Nk] rfl rfl (World.news_of_block (cs := #[.int .i64 Nk]) (t := 3) (fr := (0, 0)) (heap_alloc_new w5 _)) (by simp [Value.oneCell']) (by unfold maxLen; omega) (by omega) (by first | omega | (simp; omega)) ?_; intro v' w4 hown' hgrow _)
        have OWN6 := Lib.hid (YESREL.out HC.out _ _ hown')
        have A6 := Lib.hid ((A7.out.alloc (.cells #[.int .i64 Nk] 3)).grown' hgrow (own_aboveL OWN5.out (by omega)))
        have D6 := Lib.hid ((D7.out.alloc (.cells #[.int .i64 Nk] 3)).grown' hgrow (own_aboveL OWN5.out (by have := HTW.out; omega)))
        have C6 := Lib.hid (C7.out.below (B' := T + 1) (((Below.refl (T + 1) w5).alloc (by omega) (.cells #[.int .i64 Nk] 3)).grown hgrow (by simp; omega) (fun bb hbb => by
          rcases Nat.lt_or_ge bb (T + 1) with h | h
          · exact absurd hbb.symm (own_aboveL OWN5.out h)
          · omega)) (by omega))
        have B6 := Lib.hid ((below_new B7.out (.cells #[.int .i64 Nk] 3)).grown hgrow (by simp; omega) (fun bb hbb => by
          have := HTW.out
          rcases Nat.lt_or_ge bb (T + 1) with h | h
          · exact absurd hbb.symm (own_aboveL OWN5.out h)
          · omega))
        clear hown' hgrow OWN5
        go_wp2_with fail
        go_roundw
        case rel => exact ⟨k + 1, _, rfl, by omega, by go_num, OWN6.out, D6.out, A6.out, C6.out, B6.out⟩
        case measure => simp [intOf]; omega
      · have hdl : decide (Nk < f') = false := by simpa using hlt2
        have HC := Lib.hid (show keepE xs s F N E k = false from by
          unfold keepE nextE
          rw [HX'.out, ← HNK.out]
          simp only [decide_eq_false hlt2, Bool.and_false])
        clear hlt2 hkn YESREL
        go_wp2_with fail
        go_roundw
        case rel => exact ⟨k + 1, _, rfl, by omega, by go_num, NOREL.out HC.out _ OWNX.out, D7.out, A7.out, C7.out, B7.out⟩
        case measure => simp [intOf]; omega
    · obtain rfl : k = n := by omega
      obtain ⟨aa, cc, rfl, hcap1, hcap2, hI⟩ := own_ints OWN.out (MEM.out k (Nat.le_refl _)) rfl
      have HI := Lib.hid hI
      clear hI OWN ha hB
      go_wp2_with fail
      go_ret2
      exact ⟨_, rfl, aa, _, cc, rfl, hcap1, hcap2, HI.out, HB.out⟩
end Go.Proofs.YtlpbaljoanfogaaGreatDoor
