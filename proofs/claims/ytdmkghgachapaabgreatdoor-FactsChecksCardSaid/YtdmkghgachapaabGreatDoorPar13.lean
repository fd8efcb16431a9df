import Derived.Test.YtdmkghgachapaabGreatDoorMgH
import Derived.Test.YtdmkghgachapaabGreatDoorMgO
set_option linter.unusedSimpArgs false
namespace Go.Proofs.YtdmkghgachapaabGreatDoor
set_option linter.unusedVariables false
set_option maxRecDepth 100000
open Go.RowKit Go.Shelf
def monO (m : PMon) : Mon := (tkS m.1, m.2.1, m.2.2)
theorem mon_flat (l : List PMon) : l.flatMap monC = (l.map monO).flatMap encM := by
  induction l with
  | nil => rfl
  | cons x r ih => rw [List.flatMap_cons, List.map_cons, List.flatMap_cons, ih]; rfl
theorem Tr.one' {w w' : World} {tb g : Nat} {t : PRule} {v : Value} (h : Tr w tb g t v) (k : OneKept g w w') (hg : tb ≠ g) : Tr w' tb g t v := by
  obtain ⟨D, x, n, a, m, d, base, h1, h2, h3, h4, h5, h6, h7, h8⟩ := h
  exact ⟨D, x, n, a, m, d, base, h1.oneKept k hg, h2.keep k.size (fun b hb => k.block b (h2.2 b hb).2 (by rintro rfl; exact h3 hb)), h3, h4, Nat.le_trans h5 k.size, h6, h7, own_kept h8 fun b hb => k.block b (own_lt h8 hb).2 (by rintro rfl; exact h7 hb)⟩
theorem Tr.under {w : World} {tb g p : Nat} {t : PRule} {v : Value} (h : Tr w tb g t v) (hp : p ≤ tb) : Tr w tb p t v := by
  obtain ⟨D, x, n, a, m, d, base, h1, h2, h3, h4, h5, h6, h7, h8⟩ := h
  exact ⟨D, x, n, a, m, d, base, h1, h2, (fun h => by have := (h2.2 p h).1; omega), h4, h5, h6, (fun e => by have := (own_lt h8 e).1; omega), h8⟩
def TreeV (w : World) (t : PRule) (k n : Int) (a : Option Addr) (m d : Nat) (am : Option Addr) (nm cm : Nat) : Prop :=
  k = t.lp.kind ∧ n = t.lp.num ∧ m ≤ d ∧ d ≤ 9223372036854775807 ∧ nm ≤ cm ∧ cm ≤ 9223372036854775807 ∧ SubAt w w.heap.size t.lp a m ∧ Months w w.heap.size am nm (t.ms.map monO)
theorem Tr.open_ {w : World} {tb g : Nat} {t : PRule} {v : Value} (h : Tr w tb g t v) (ho : OKt t) : ∃ (k n : Int) (a : Option Addr) (m d : Nat) (am : Option Addr) (nm cm : Nat), v = .slice am nm cm ∧ At w tb (trO t k n a m d v) ∧ TreeV w t k n a m d am nm cm := by
  obtain ⟨D, k, n, a, m, d, base, h1, ⟨⟨a', m', d', e, q1, q2, q3⟩, hd⟩, h3, h4, h5, h6, h7, h8⟩ := h
  injection e with e
  obtain ⟨e1, e2, e3⟩ := arr3 e
  injection e1 with _ e1
  injection e2 with _ e2
  injection e3 with e3 e4 e5
  subst e1 e2 e3 e4 e5
  rw [mon_flat] at h8
  obtain ⟨am, cm, rfl, r1, r2, r3⟩ := own_months h8 (by simp) (fun x hx => by
    obtain ⟨y, hy, rfl⟩ := List.mem_map.1 hx
    have := ho.2 y hy
    exact ⟨by show (tkS y.1).size ≤ _; rw [tkS_len]; omega, by unfold I64; show _ ≤ y.2.1 ∧ y.2.1 ≤ _; omega, by unfold I64; show _ ≤ y.2.2 ∧ y.2.2 ≤ _; omega⟩)
  exact ⟨_, _, a, m, d, am, _, cm, rfl, h1, rfl, rfl, q1, q2, r1, r2, q3 w (Nat.le_refl _) (fun _ _ => rfl), r3⟩
abbrev zT : Obj := .cells #[.string ⟨#[]⟩, .int .i64 0, .int .i64 0, .int .i64 0, .int .i64 0, .slice none 0 0, .slice none 0 0] 113
theorem tree_store {w : World} {b : Nat} {x0 x1 x2 x3 x4 x5 x6 : Value} (h : At w b (.cells #[x0, x1, x2, x3, x4, x5, x6] 113)) (u0 u1 u2 u3 u4 u5 u6 : Value) : At (((((((w.setCell ⟨b, 0, none⟩ u0).setCell ⟨b, 1, none⟩ u1).setCell ⟨b, 2, none⟩ u2).setCell ⟨b, 3, none⟩ u3).setCell ⟨b, 4, none⟩ u4).setCell ⟨b, 5, none⟩ u5).setCell ⟨b, 6, none⟩ u6) b (.cells #[u0, u1, u2, u3, u4, u5, u6] 113) := by
  have := ((((((h.store 0 u0).store 1 u1).store 2 u2).store 3 u3).store 4 u4).store 5 u5).store 6 u6
  simpa using this
theorem below_set7 {B : Nat} {a w : World} (h : Below B a w) {b : Nat} (hb : B ≤ b) (u0 u1 u2 u3 u4 u5 u6 : Value) : Below B a (((((((w.setCell ⟨b, 0, none⟩ u0).setCell ⟨b, 1, none⟩ u1).setCell ⟨b, 2, none⟩ u2).setCell ⟨b, 3, none⟩ u3).setCell ⟨b, 4, none⟩ u4).setCell ⟨b, 5, none⟩ u5).setCell ⟨b, 6, none⟩ u6) :=
  below_set (below_set (below_set (below_set (below_set (below_set (below_set h hb _) hb _) hb _) hb _) hb _) hb _) hb _
theorem one_set7 (w : World) (b : Nat) (u0 u1 u2 u3 u4 u5 u6 : Value) : OneKept b w (((((((w.setCell ⟨b, 0, none⟩ u0).setCell ⟨b, 1, none⟩ u1).setCell ⟨b, 2, none⟩ u2).setCell ⟨b, 3, none⟩ u3).setCell ⟨b, 4, none⟩ u4).setCell ⟨b, 5, none⟩ u5).setCell ⟨b, 6, none⟩ u6) :=
  (((((((OneKept.refl b w).set 0 u0).set 1 u1).set 2 u2).set 3 u3).set 4 u4).set 5 u5).set 6 u6
def PPost (w : World) : Res (Nat × Int ⊕ PRule) → Ending → World → Prop
  | .good (.inl p), e, w' => e = .returned (.tuple #[.agg #[.string ⟨#[]⟩, .int .i64 0, .int .i64 0, .int .i64 0, .int .i64 0, .slice none 0 0, .slice none 0 0], .int .i64 (p.1 : Int), .int .i64 p.2]) ∧ Below w.heap.size w w'
  | .good (.inr t), e, w' => (∃ k n a m d am nm cm, e = .returned (.tuple #[.agg #[.string (tkS t.nm), .int .i64 t.ep, .int .i64 t.cy, .int .i64 k, .int .i64 n, .slice a m d, .slice am nm cm], .int .i64 0, .int .i64 0]) ∧ TreeV w' t k n a m d am nm cm) ∧ Below w.heap.size w w'
  | _, _, _ => False
theorem tree_after {w : World} {tb g B : Nat} {t : PRule} {k n : Int} {a : Option Addr} {m d : Nat} {am : Option Addr} {nm cm : Nat} (h : Tr w tb g t (.slice am nm cm)) (hat : At w tb (trO t k n a m d (.slice am nm cm))) (ho : OKt t) (hB : B < tb) (u0 u1 u2 u3 u4 u5 u6 : Value) :
    TreeV (((((((w.setCell ⟨B, 0, none⟩ u0).setCell ⟨B, 1, none⟩ u1).setCell ⟨B, 2, none⟩ u2).setCell ⟨B, 3, none⟩ u3).setCell ⟨B, 4, none⟩ u4).setCell ⟨B, 5, none⟩ u5).setCell ⟨B, 6, none⟩ u6) t k n a m d am nm cm := by
  have h2 := ((h.under (p := B) (by omega)).one' (one_set7 w B u0 u1 u2 u3 u4 u5 u6) (by omega))
  obtain ⟨k', n', a', m', d', am', nm', cm', e, hat', hv⟩ := h2.open_ ho
  have hat2 := hat.oneKept (one_set7 w B u0 u1 u2 u3 u4 u5 u6) (by omega)
  have e2 : trO t k n a m d (.slice am nm cm) = trO t k' n' a' m' d' (.slice am nm cm) := by
    have := hat2.symm.trans hat'
    exact Option.some.inj this
  injection e2 with e3
  injection e with q1 q2 q3
  have e4 := congrArg Array.toList e3
  simp at e4
  obtain ⟨r1, r2, r3, r4, r5⟩ := e4
  subst r1 r2 r3 r4 r5 q1 q2 q3
  exact hv
theorem Tr.stay {w W : World} {tb g : Nat} {t : PRule} {v : Value} (h : Tr w tb g t v) (hz : w.heap.size ≤ W.heap.size) (hk : ∀ k, tb ≤ k → k < w.heap.size → W.heap[k]? = w.heap[k]?) : Tr W tb g t v := by
  obtain ⟨D, x, n, a, m, d, base, h1, h2, h3, h4, h5, h6, h7, h8⟩ := h
  exact ⟨D, x, n, a, m, d, base, (hk tb (Nat.le_refl _) h1.lt).trans h1, h2.keep hz (fun b hb => hk b (by have := (h2.2 b hb).1; omega) (h2.2 b hb).2), h3, h4, Nat.le_trans h5 hz, h6, h7, own_kept h8 fun b hb => hk b (by have := (own_lt h8 hb).1; omega) (own_lt h8 hb).2⟩
def Stays (B : Nat) (w : World) (t : PRule) (k n : Int) (a : Option Addr) (m d : Nat) (am : Option Addr) (nm cm : Nat) : Prop := ∀ W : World, w.heap.size ≤ W.heap.size → (∀ q, B ≤ q → q < w.heap.size → W.heap[q]? = w.heap[q]?) → TreeV W t k n a m d am nm cm
theorem Stays.here {B : Nat} {w : World} {t : PRule} {k n : Int} {a : Option Addr} {m d : Nat} {am : Option Addr} {nm cm : Nat} (h : Stays B w t k n a m d am nm cm) : TreeV w t k n a m d am nm cm := h w (Nat.le_refl _) fun _ _ _ => rfl
theorem tree_stay {w : World} {tb g B p : Nat} {t : PRule} {k n : Int} {a : Option Addr} {m d : Nat} {am : Option Addr} {nm cm : Nat} (h : Tr w tb g t (.slice am nm cm)) (hat : At w tb (trO t k n a m d (.slice am nm cm))) (ho : OKt t) (hB : B < tb) (hp : p ≤ B) (u0 u1 u2 u3 u4 u5 u6 : Value) :
    Stays p (((((((w.setCell ⟨B, 0, none⟩ u0).setCell ⟨B, 1, none⟩ u1).setCell ⟨B, 2, none⟩ u2).setCell ⟨B, 3, none⟩ u3).setCell ⟨B, 4, none⟩ u4).setCell ⟨B, 5, none⟩ u5).setCell ⟨B, 6, none⟩ u6) t k n a m d am nm cm := by
  intro W hz hk
  have h2 := ((h.under (p := B) (by omega)).one' (one_set7 w B u0 u1 u2 u3 u4 u5 u6) (by omega))
  have hat2 := hat.oneKept (one_set7 w B u0 u1 u2 u3 u4 u5 u6) (by omega)
  have h3 := h2.stay hz (fun q h1 h2 => hk q (by omega) h2)
  have hat3 := (hk tb (by omega) hat2.lt).trans hat2
  obtain ⟨k', n', a', m', d', am', nm', cm', e, hat', hv⟩ := h3.open_ ho
  have e2 : trO t k n a m d (.slice am nm cm) = trO t k' n' a' m' d' (.slice am nm cm) := Option.some.inj (hat3.symm.trans hat')
  injection e2 with e3
  injection e with q1 q2 q3
  have e4 := congrArg Array.toList e3
  simp at e4
  obtain ⟨r1, r2, r3, r4, r5⟩ := e4
  subst r1 r2 r3 r4 r5 q1 q2 q3
  exact hv
def PPostS (w : World) : Res (Nat × Int ⊕ PRule) → Ending → World → Prop
  | .good (.inl p), e, w' => e = .returned (.tuple #[.agg #[.string ⟨#[]⟩, .int .i64 0, .int .i64 0, .int .i64 0, .int .i64 0, .slice none 0 0, .slice none 0 0], .int .i64 (p.1 : Int), .int .i64 p.2]) ∧ Below w.heap.size w w'
  | .good (.inr t), e, w' => (∃ k n a m d am nm cm, e = .returned (.tuple #[.agg #[.string (tkS t.nm), .int .i64 t.ep, .int .i64 t.cy, .int .i64 k, .int .i64 n, .slice a m d, .slice am nm cm], .int .i64 0, .int .i64 0]) ∧ Stays w.heap.size w' t k n a m d am nm cm) ∧ Below w.heap.size w w'
  | _, _, _ => False
theorem PPostS.weak {w : World} {R : Res (Nat × Int ⊕ PRule)} {e : Ending} {w' : World} (h : PPostS w R e w') : PPost w R e w' := by
  match R, h with
  | .good (.inl p), h => exact h
  | .good (.inr t), ⟨⟨k, n, a, m, d, am, nm, cm, he, hs⟩, hb⟩ => exact ⟨⟨k, n, a, m, d, am, nm, cm, he, hs.here⟩, hb⟩
def strLen : Value → Nat
  | .string b => b.size
  | _ => 0
def perr (t : PRule) : Int := ruleErr (tkS t.nm) t.ep t.cy t.lp (t.ms.map monO)
def endP (i : Nat) : Res PRule → Res (Nat × Int ⊕ PRule)
  | .stuck => .stuck
  | .bad e => .good (.inl (i, e))
  | .good t => if i < 4 then .good (.inl (i, 4)) else if perr t ≠ 0 then .good (.inl (0, perr t)) else .good (.inr t)
theorem parse_end {f : Nat} {s : List UInt8} (h : ¬ 4000 < s.length) {i : Nat} {R : Res PRule} (hl : linesP f 0 (linesOf s) rule0 = (i, R)) : parseP f s = endP i R := by
  unfold parseP
  rw [if_neg h, hl]
  cases R <;> rfl
theorem row_any {S : ByteArray} {g tb f i : Nat} {t : PRule} {v : Value} {w : World} (h : At w g (rd S 0 0 0 0)) (ht : Tr w tb g t v) (hG : Glob g w) (htg : tb < g) (hs1 : 5 < tb) (hs2 : 6 < tb) (hS : S.size ≤ 140737488355328) (hib : i ≤ 4000) (hml : t.ms.length ≤ 4000) (h3 : i ≤ 4 → t.ms = [] ∧ v = .slice none 0 0) (hns : rowP f i (toks S.data.toList) t ≠ .stuck) :
    Calls Tryz.prog 101 #[.pointer (some ⟨g, 0, none⟩), .pointer (some ⟨tb, 0, none⟩), .int .i64 (i : Int)] w (RowPost g tb v w (rowP f i (toks S.data.toList) t)) := by
  match i with
  | 0 => exact row_0 h ht hG htg hs1 hs2 hS
  | 1 => exact row_1 h ht hG htg hs1 hs2 hS
  | 2 => exact row_2 h ht hG htg hs1 hs2 hS
  | 3 => exact row_3 h ht hG htg hs1 hs2 hS (h3 (by omega)).1 (h3 (by omega)).2 (row3_stuck hns)
  | j + 4 => exact row_4 (j + 4) (by omega) hib h ht hG htg hs1 hs2 hS hml
set_option maxHeartbeats 16000000 in
theorem rule_ParseS (S : ByteArray) (f : Nat) (w : World) (hS : S.size ≤ 9223372036854775806) (hlv : Lvl w) (hsg : Sgn w) (hns : parseP f S.data.toList ≠ .stuck) :
    Calls Tryz.prog 82 #[.string S] w (PPostS w (parseP f S.data.toList)) := by
  obtain ⟨RR, hRR⟩ : ∃ RR, RR = parseP f S.data.toList := ⟨_, rfl⟩
  rw [← hRR] at hns ⊢
  have hlen := str_len S
  have hg1 : 5 < w.heap.size := World.block_lt_of_cell? _ _ (hsg.cell 0 (by omega))
  have hg2 : 6 < w.heap.size := World.block_lt_of_cell? _ _ (hlv.cell 0 (by omega))
  obtain ⟨B, hB⟩ : ∃ B, B = w.heap.size := ⟨_, rfl⟩
  have HBB := Lib.hid (show w.heap.size ≤ B by omega)
  have A0 := Lib.hid (At.newAt w zT B hB)
  have HB0 := Lib.hid (below_new (Below.refl w.heap.size w) zT)
  have HLV := Lib.hid hlv; have HSG := Lib.hid hsg
  by_cases hbig : 4000 < S.size
  · have HR := Lib.hid (show RR = .good (.inl (0, 2)) by rw [hRR]; unfold parseP; rw [if_pos (by rw [hlen]; exact hbig)])
    have d1 : (4000 : Int) < S.size := by omega
    clear hns hRR hlen hlv hsg hbig
    go_enter Tryz.func82, Tryz.ntmps82
    go_upto_region 1 with fail
    rw [← hB]
    clear hB
    generalize World.alloc w _ = W0 at A0 HB0 ⊢
    have a1 := A0.out
    have HBW := HB0
    clear A0 HB0
    have z0 := a1.frozen 0; have z1 := a1.frozen 1; have z2 := a1.frozen 2; have z3 := a1.frozen 3; have z4 := a1.frozen 4; have z5 := a1.frozen 5; have z6 := a1.frozen 6; have zl := a1.lt
    have y0 := a1.cell 0; have y1 := a1.cell 1; have y2 := a1.cell 2; have y3 := a1.cell 3; have y4 := a1.cell 4; have y5 := a1.cell 5; have y6 := a1.cell 6
    simp at y0 y1 y2 y3 y4 y5 y6
    have F1 := Lib.hid (tree_store a1 (.string ⟨#[]⟩) (.int .i64 0) (.int .i64 0) (.int .i64 0) (.int .i64 0) (.slice none 0 0) (.slice none 0 0))
    have F2 := Lib.hid (below_set7 HBW.out HBB.out (.string ⟨#[]⟩) (.int .i64 0) (.int .i64 0) (.int .i64 0) (.int .i64 0) (.slice none 0 0) (.slice none 0 0))
    clear a1
    go_wp2_with fail
    generalize World.setCell (World.setCell (World.setCell (World.setCell (World.setCell (World.setCell (World.setCell W0 _ _) _ _) _ _) _ _) _ _) _ _) _ _ = W9 at F1 F2 ⊢
    have e0 := F1.out.cell 0; have e1 := F1.out.cell 1; have e2 := F1.out.cell 2; have e3 := F1.out.cell 3; have e4 := F1.out.cell 4; have e5 := F1.out.cell 5; have e6 := F1.out.cell 6
    simp at e0 e1 e2 e3 e4 e5 e6
    (try simp only [Exit.inBlock, Exit.then])
    refine bodyPost_ret (v := .tuple #[.agg #[.string ⟨#[]⟩, .int .i64 0, .int .i64 0, .int .i64 0, .int .i64 0, .slice none 0 0, .slice none 0 0], .int .i64 0, .int .i64 2]) ?_ rfl ?_
    · simp [results, Tryz.results82, go_sem, e0, e1, e2, e3, e4, e5, e6]
    · exact (by rw [HR.out]; exact ⟨rfl, by have := F2.out; (repeat' (first | exact bxR _ _ | assumption | refine bxD ?_ | refine bxN ?_ _ | refine bxA ?_ _ | refine bxS ?_ ?_ _ | refine bxT ?_ (by assumption) | refine bxW ?_ (by assumption) | exact Nat.le_refl _ | omega | (simp; done) | (simp; omega)))⟩)
  have d1 : ¬ (4000 : Int) < S.size := by omega
  obtain ⟨tb, htb⟩ : ∃ tb, tb = w.heap.size + 1 := ⟨_, rfl⟩
  have HT0 := Lib.hid (At.newAt (w.alloc zT) zT tb (by rw [htb, World.size_alloc]))
  have A1 := Lib.hid (A0.out.alloc zT)
  have HB1 := Lib.hid (below_new HB0.out zT)
  have hBt : B < tb := by omega
  have HTT := Lib.hid (show w.heap.size ≤ tb by omega)
  have HEND := Lib.hid (fun (i : Nat) (R : Res PRule) (h : linesP f 0 (linesOf S.data.toList) rule0 = (i, R)) => hRR.trans (parse_end (f := f) (s := S.data.toList) (by rw [hlen]; exact hbig) h))
  have HNS := Lib.hid hns
  have hl4 : S.data.toList.length ≤ 4000 := by rw [hlen]; omega
  have hs1 : 5 < tb := by omega
  have hs2 : 6 < tb := by omega
  have hSe : S = ⟨S.data.toList.toArray⟩ := (str_eta S).symm
  obtain ⟨sl, hsl⟩ : ∃ sl, sl = S.data.toList := ⟨_, rfl⟩
  rw [← hsl] at hSe HEND hl4
  clear hns hRR hlen hlv hsg hbig A0 HB0 hsl
  subst hSe
  go_enter Tryz.func82, Tryz.ntmps82
  go_upto_region 5 with fail
  (try rw [World.size_alloc])
  rw [← htb, ← hB]
  clear htb hB
  generalize World.alloc (World.alloc w _) _ = W1 at HT0 A1 HB1 ⊢
  have HTR := Lib.hid (show Tr W1 tb W1.heap.size rule0 (.slice none 0 0) from
    ⟨fun _ => False, 0, 0, none, 0, 0, W1.heap.size, HT0.out, TG.leaf _ _ I64_zero I64_zero, (fun h => h), HT0.out.lt, Nat.le_refl _, (fun _ h => h.elim), by simp [Value.ownBlock], World.ownsRow_nil _ _ _ _⟩)
  clear HT0
  go_loopw [0, 6] (fun sv ln wr => ∃ (rem : List UInt8) (i : Nat) (t : PRule) (v : Value) (g0 : Nat), sv = .string ⟨rem.toArray⟩ ∧ ln = .int .i64 i ∧ i + rem.length ≤ 4000 ∧ linesP f 0 (linesOf sl) rule0 = linesP f i (linesOf rem) t ∧ t.ms.length ≤ i ∧ (i ≤ 4 → t.ms = [] ∧ v = .slice none 0 0) ∧ OKt t ∧ Tr wr tb g0 t v ∧ At wr B zT ∧ Below w.heap.size w wr) (fun sv _ _ => strLen sv)
  case atStart => exact ⟨sl, 0, rule0, .slice none 0 0, W1.heap.size, rfl, rfl, by omega, rfl, by simp [rule0], fun _ => ⟨rfl, rfl⟩, ⟨by simp [rule0], by simp [rule0]⟩, HTR.out, A1.out, HB1.out⟩
  case round =>
    clear HTR A1 HB1
    obtain ⟨rem, i, t, v, g0, rfl, rfl, hil, hq, hmi, h34, hok, htr, hat, hbel⟩ := hrel
    have HQ := Lib.hid hq; have HTR := Lib.hid htr; have HAT := Lib.hid hat; have HBL := Lib.hid hbel; have H34 := Lib.hid h34; have HOK := Lib.hid hok
    clear hq htr hat hbel h34 hok
    by_cases hrem : rem = []
    · subst hrem
      have HL := Lib.hid (show linesP f 0 (linesOf sl) rule0 = (i, .good t) by rw [HQ.out]; rfl)
      by_cases hi4 : i < 4
      · have HR := Lib.hid (show RR = .good (.inl (i, 4)) by rw [HEND.out _ _ HL.out]; show (if i < 4 then _ else _) = _; rw [if_pos hi4])
        have d4 : (i : Int) < 4 := by omega
        have a1 := HAT.out
        have HBW := HBL
        clear HQ HL hi4
        have z0 := a1.frozen 0; have z1 := a1.frozen 1; have z2 := a1.frozen 2; have z3 := a1.frozen 3; have z4 := a1.frozen 4; have z5 := a1.frozen 5; have z6 := a1.frozen 6; have zl := a1.lt
        have y0 := a1.cell 0; have y1 := a1.cell 1; have y2 := a1.cell 2; have y3 := a1.cell 3; have y4 := a1.cell 4; have y5 := a1.cell 5; have y6 := a1.cell 6
        simp at y0 y1 y2 y3 y4 y5 y6
        have F1 := Lib.hid (tree_store a1 (.string ⟨#[]⟩) (.int .i64 0) (.int .i64 0) (.int .i64 0) (.int .i64 0) (.slice none 0 0) (.slice none 0 0))
        have F2 := Lib.hid (below_set7 HBW.out HBB.out (.string ⟨#[]⟩) (.int .i64 0) (.int .i64 0) (.int .i64 0) (.int .i64 0) (.slice none 0 0) (.slice none 0 0))
        clear a1
        go_wp2_with fail
        generalize World.setCell (World.setCell (World.setCell (World.setCell (World.setCell (World.setCell (World.setCell wr _ _) _ _) _ _) _ _) _ _) _ _) _ _ = W9 at F1 F2 ⊢
        have e0 := F1.out.cell 0; have e1 := F1.out.cell 1; have e2 := F1.out.cell 2; have e3 := F1.out.cell 3; have e4 := F1.out.cell 4; have e5 := F1.out.cell 5; have e6 := F1.out.cell 6
        simp at e0 e1 e2 e3 e4 e5 e6
        (try simp only [Exit.inBlock, Exit.then])
        refine bodyPost_ret (v := .tuple #[.agg #[.string ⟨#[]⟩, .int .i64 0, .int .i64 0, .int .i64 0, .int .i64 0, .slice none 0 0, .slice none 0 0], .int .i64 (i : Int), .int .i64 4]) ?_ rfl ?_
        · simp [results, Tryz.results82, go_sem, e0, e1, e2, e3, e4, e5, e6]
        · exact (by rw [HR.out]; exact ⟨rfl, by have := F2.out; (repeat' (first | exact bxR _ _ | assumption | refine bxD ?_ | refine bxN ?_ _ | refine bxA ?_ _ | refine bxS ?_ ?_ _ | refine bxT ?_ (by assumption) | refine bxW ?_ (by assumption) | exact Nat.le_refl _ | omega | (simp; done) | (simp; omega)))⟩)
      · have d4 : ¬ (i : Int) < 4 := by omega
        have HRP := Lib.hid (show RR = if perr t ≠ 0 then .good (.inl (0, perr t)) else .good (.inr t) by rw [HEND.out _ _ HL.out]; show (if i < 4 then _ else _) = _; rw [if_neg hi4])
        obtain ⟨k, n, a, m, d, am, nm, cm, rfl, htat, hk, hn, k1, m1, k2, m2, hsub, hmon⟩ := HTR.out.open_ HOK.out
        obtain ⟨E, hE⟩ : ∃ E, E = perr t := ⟨_, rfl⟩
        obtain ⟨N, hN⟩ : ∃ N, N = tkS t.nm := ⟨_, rfl⟩
        have CC := Lib.hid (show Calls Tryz.prog 84 #[.agg #[.string N, .int .i64 t.ep, .int .i64 t.cy, .int .i64 k, .int .i64 n, .slice a m d, .slice am nm cm]] wr (fun e w' => e = .returned (.int .i64 E) ∧ Below wr.heap.size wr w') from by
          have hlp : t.lp = .node k n t.lp.kids := by rw [hk, hn]; cases t.lp; rfl
          rw [hE, hN]
          have := rule_Check wr (tkS t.nm) t.ep t.cy k n t.lp.kids a am m d nm cm (t.ms.map monO) (by rw [tkS_len]; have := HOK.out.1; omega) k1 m1 k2 (by rw [← hlp]; exact hsub) hmon
          rw [← hlp] at this
          exact this)
        rw [← hE] at HRP
        have x0 := htat.cell 0; have x1 := htat.cell 1; have x2 := htat.cell 2; have x3 := htat.cell 3; have x4 := htat.cell 4; have x5 := htat.cell 5; have x6 := htat.cell 6
        have hbz := htat.lt
        simp at x0 x1 x2 x3 x4 x5 x6
        rw [← hN] at x0
        have HTAT := Lib.hid htat
        have HN := Lib.hid hN
        obtain ⟨ep, hep⟩ : ∃ ep, ep = t.ep := ⟨_, rfl⟩
        obtain ⟨cy, hcy⟩ : ∃ cy, cy = t.cy := ⟨_, rfl⟩
        rw [← hep, ← hcy] at CC
        rw [← hep] at x1
        rw [← hcy] at x2
        have HEP := Lib.hid hep; have HCY := Lib.hid hcy
        clear hE hN hk hn hsub hmon htat HQ HL hi4 hep hcy
        go_wp2_with fail
        refine CC.out.mono ?_
        rintro e w5 ⟨rfl, hb⟩
        have HBW := Lib.hid (below_then HBL.out hb)
        have a1 := HAT.out.then_ hb
        have HTR5 := Lib.hid (HTR.out.then_ hb)
        have t5 := HTAT.out.then_ hb
        clear hb CC x0 x1 x2 x3 x4 x5 x6 HTAT
        by_cases hz : E = 0
        · have HR := Lib.hid (show RR = .good (.inr t) by rw [HRP.out, if_neg (by simp [hz])])
          subst hz
          have x0 := t5.cell 0; have x1 := t5.cell 1; have x2 := t5.cell 2; have x3 := t5.cell 3; have x4 := t5.cell 4; have x5 := t5.cell 5; have x6 := t5.cell 6
          have hbz5 := t5.lt
          simp at x0 x1 x2 x3 x4 x5 x6
          rw [← HN.out] at x0
          rw [← HEP.out] at x1
          rw [← HCY.out] at x2
          have T5 := Lib.hid t5
          clear t5 HRP
          have z0 := a1.frozen 0; have z1 := a1.frozen 1; have z2 := a1.frozen 2; have z3 := a1.frozen 3; have z4 := a1.frozen 4; have z5 := a1.frozen 5; have z6 := a1.frozen 6; have zl := a1.lt
          have y0 := a1.cell 0; have y1 := a1.cell 1; have y2 := a1.cell 2; have y3 := a1.cell 3; have y4 := a1.cell 4; have y5 := a1.cell 5; have y6 := a1.cell 6
          simp at y0 y1 y2 y3 y4 y5 y6
          have F1 := Lib.hid (tree_store a1 (.string N) (.int .i64 ep) (.int .i64 cy) (.int .i64 k) (.int .i64 n) (.slice a m d) (.slice am nm cm))
          have F2 := Lib.hid (below_set7 HBW.out HBB.out (.string N) (.int .i64 ep) (.int .i64 cy) (.int .i64 k) (.int .i64 n) (.slice a m d) (.slice am nm cm))
          have F3 := Lib.hid (tree_stay HTR5.out T5.out HOK.out hBt HBB.out (.string N) (.int .i64 ep) (.int .i64 cy) (.int .i64 k) (.int .i64 n) (.slice a m d) (.slice am nm cm))
          clear a1
          go_wp2_with fail
          generalize World.setCell (World.setCell (World.setCell (World.setCell (World.setCell (World.setCell (World.setCell w5 _ _) _ _) _ _) _ _) _ _) _ _) _ _ = W9 at F1 F2 F3 ⊢
          have e0 := F1.out.cell 0; have e1 := F1.out.cell 1; have e2 := F1.out.cell 2; have e3 := F1.out.cell 3; have e4 := F1.out.cell 4; have e5 := F1.out.cell 5; have e6 := F1.out.cell 6
          simp at e0 e1 e2 e3 e4 e5 e6
          (try simp only [Exit.inBlock, Exit.then])
          refine bodyPost_ret (v := .tuple #[.agg #[.string N, .int .i64 ep, .int .i64 cy, .int .i64 k, .int .i64 n, .slice a m d, .slice am nm cm], .int .i64 0, .int .i64 0]) ?_ rfl ?_
          · simp [results, Tryz.results82, go_sem, e0, e1, e2, e3, e4, e5, e6]
          · exact (by rw [HR.out, HN.out, HEP.out, HCY.out]; exact ⟨⟨k, n, a, m, d, am, nm, cm, rfl, F3.out⟩, F2.out⟩)
        · have HR := Lib.hid (show RR = .good (.inl (0, E)) by rw [HRP.out, if_pos hz])
          have e1 : (E == 0) = false := by simpa using hz
          have e2 : (E != 0) = true := by simpa using hz
          clear hz t5 HRP
          have z0 := a1.frozen 0; have z1 := a1.frozen 1; have z2 := a1.frozen 2; have z3 := a1.frozen 3; have z4 := a1.frozen 4; have z5 := a1.frozen 5; have z6 := a1.frozen 6; have zl := a1.lt
          have y0 := a1.cell 0; have y1 := a1.cell 1; have y2 := a1.cell 2; have y3 := a1.cell 3; have y4 := a1.cell 4; have y5 := a1.cell 5; have y6 := a1.cell 6
          simp at y0 y1 y2 y3 y4 y5 y6
          have F1 := Lib.hid (tree_store a1 (.string ⟨#[]⟩) (.int .i64 0) (.int .i64 0) (.int .i64 0) (.int .i64 0) (.slice none 0 0) (.slice none 0 0))
          have F2 := Lib.hid (below_set7 HBW.out HBB.out (.string ⟨#[]⟩) (.int .i64 0) (.int .i64 0) (.int .i64 0) (.int .i64 0) (.slice none 0 0) (.slice none 0 0))
          clear a1
          go_wp2_with fail
          generalize World.setCell (World.setCell (World.setCell (World.setCell (World.setCell (World.setCell (World.setCell w5 _ _) _ _) _ _) _ _) _ _) _ _) _ _ = W9 at F1 F2 ⊢
          have e0 := F1.out.cell 0; have e1 := F1.out.cell 1; have e2 := F1.out.cell 2; have e3 := F1.out.cell 3; have e4 := F1.out.cell 4; have e5 := F1.out.cell 5; have e6 := F1.out.cell 6
          simp at e0 e1 e2 e3 e4 e5 e6
          (try simp only [Exit.inBlock, Exit.then])
          refine bodyPost_ret (v := .tuple #[.agg #[.string ⟨#[]⟩, .int .i64 0, .int .i64 0, .int .i64 0, .int .i64 0, .slice none 0 0, .slice none 0 0], .int .i64 0, .int .i64 E]) ?_ rfl ?_
          · simp [results, Tryz.results82, go_sem, e0, e1, e2, e3, e4, e5, e6]
          · exact (by rw [HR.out]; exact ⟨rfl, by have := F2.out; (repeat' (first | exact bxR _ _ | assumption | refine bxD ?_ | refine bxN ?_ _ | refine bxA ?_ _ | refine bxS ?_ ?_ _ | refine bxT ?_ (by assumption) | refine bxW ?_ (by assumption) | exact Nat.le_refl _ | omega | (simp; done) | (simp; omega)))⟩)
    · -- a line
      obtain ⟨T, hT⟩ : ∃ T : ByteArray, T = ⟨(cutL rem 10).toArray⟩ := ⟨_, rfl⟩
      have hTs : T.size = (cutL rem 10).length := by rw [hT]; show (cutL rem 10).toArray.size = _; simp
      have hTl : T.data.toList = cutL rem 10 := by rw [hT]
      have hle := cutL_le rem
      have hR1 := cutR_lt rem hrem
      have hrl : (⟨rem.toArray⟩ : ByteArray).data.toList = rem := by simp
      have hrs : (⟨rem.toArray⟩ : ByteArray).size = rem.length := by show rem.toArray.size = _; simp
      have CU := Lib.hid (show Calls Tryz.prog 32 #[.string ⟨rem.toArray⟩, .string ⟨#[10]⟩] wr (fun e w' => e = .returned (.tuple #[.string T, .string ⟨(cutR rem 10).toArray⟩, .bool (cutB rem 10)]) ∧ Drawn wr w') from by
        have := lib_Cut ⟨rem.toArray⟩ 10 wr (by rw [hrs]; omega)
        rw [hrl, ← hT] at this
        exact this)
      have HQ2 := Lib.hid (show linesP f 0 (linesOf sl) rule0 = match rowP f i (toks T.data.toList) t with
          | .good t' => linesP f (i + 1) (linesOf (cutR rem 10)) t'
          | .bad e => (i, .bad e)
          | .stuck => (i, .stuck) by rw [HQ.out, linesOf_cut rem hrem, hTl, linesP]; cases rowP f i (toks (cutL rem 10)) t <;> rfl)
      have hne : (⟨rem.toArray⟩ : ByteArray).toList.isEmpty = false := by rw [str_list, hrl]; cases rem with | nil => exact absurd rfl hrem | cons _ _ => rfl
      have HOL := Lib.hid (okL_toks (s := T.data.toList) (by rw [hTl]; omega))
      have HM := Lib.hid (show strLen (.string ⟨(cutR rem 10).toArray⟩) < strLen (.string ⟨rem.toArray⟩) by
        show (⟨(cutR rem 10).toArray⟩ : ByteArray).size < (⟨rem.toArray⟩ : ByteArray).size
        rw [hrs]; show (cutR rem 10).toArray.size < _; simpa using hR1)
      have HIL := Lib.hid (show i + 1 + (cutR rem 10).length ≤ 4000 by omega)
      have hi40 : i ≤ 4000 := by omega
      have hTz : T.size ≤ 4000 := by omega
      obtain ⟨P, hP⟩ : ∃ P : ByteArray, P = ⟨rem.toArray⟩ := ⟨_, rfl⟩
      obtain ⟨Q, hQ⟩ : ∃ Q : ByteArray, Q = ⟨(cutR rem 10).toArray⟩ := ⟨_, rfl⟩
      rw [← hP] at CU hne HM ⊢
      rw [← hQ] at CU HM
      have HQQ := Lib.hid hQ
      generalize cutB rem 10 = cb at CU
      clear hT hTs hTl hle hR1 hrl hrs hrem hP hQ HQ hil
      go_wp2_with fail
      refine CU.out.mono ?_
      rintro e w1 ⟨rfl, hdr⟩
      have hb1 : Below wr.heap.size wr w1 := by obtain ⟨q, rfl⟩ := hdr; exact below_drewN (Below.refl _ _) q
      have T1 := HTR.out.then_ hb1
      obtain ⟨g, hg⟩ : ∃ g, g = w1.heap.size := ⟨_, rfl⟩
      have htg : tb < g := by rw [hg]; exact T1.lt
      have R2 := Lib.hid (show At (w1.alloc (.cells #[.string T, .int .i64 0, .int .i64 0, .int .i64 0, .int .i64 0] 151)) g (rd T 0 0 0 0) from At.newAt w1 _ g hg)
      have T2 := Lib.hid ((T1.fresh (g' := g) (by omega)).then_ (below_new (Below.refl _ _) (.cells #[.string T, .int .i64 0, .int .i64 0, .int .i64 0, .int .i64 0] 151)))
      have A2 := Lib.hid ((HAT.out.then_ hb1).alloc (.cells #[.string T, .int .i64 0, .int .i64 0, .int .i64 0, .int .i64 0] 151))
      have B2 := Lib.hid (below_new (below_then HBL.out hb1) (.cells #[.string T, .int .i64 0, .int .i64 0, .int .i64 0, .int .i64 0] 151))
      clear hdr hb1 T1 HTR HAT HBL CU
      go_upto_region 8 with fail
      rw [← hg]
      clear hg
      generalize World.alloc w1 _ = W2 at R2 T2 A2 B2 ⊢
      have CR := Lib.hid (row_any (i := i) (f := f) R2.out T2.out (show Glob g W2 from ⟨HLV.out.below B2.out, HSG.out.below B2.out, by omega, by omega⟩) htg hs1 hs2 (by omega) hi40 (by omega) H34.out (fun h => HNS.out (by
        have := HEND.out i .stuck (by rw [HQ2.out, h])
        exact this)))
      go_wp2_with fail
      refine CR.out.mono ?_
      generalize hRW : rowP f i (toks T.data.toList) t = R0 at HQ2
      clear CR
      have HRW := Lib.hid hRW; clear hRW
      intro e w3 hp
      cases R0 with
      | stuck => exact hp.elim
      | bad c =>
        obtain ⟨rfl, hc, hF⟩ := hp
        have HR := Lib.hid (show RR = .good (.inl (i, c)) by rw [HEND.out i (.bad c) (by rw [HQ2.out])]; rfl)
        obtain ⟨S', qa, qn, qo, hbad⟩ := hF.bad
        have r4 : w3.cell? ⟨g, 4, none⟩ = some (.int .i64 c) := hbad.cell 4
        have r4d : w3.drew.cell? ⟨g, 4, none⟩ = some (.int .i64 c) := hbad.cell 4
        have rl := hbad.lt
        have a1 := A2.out.below hF.bel hBt
        have HBW := Lib.hid (show Below w.heap.size w w3 from ⟨hF.bel.os.trans B2.out.os, hF.bel.tape.trans B2.out.tape, hF.bel.output.trans B2.out.output, Nat.le_trans B2.out.size hF.bel.size, fun b hb => (hF.bel.block b (Nat.lt_of_lt_of_le hb HTT.out)).trans (B2.out.block b hb)⟩)
        clear hF hbad R2 T2 A2 B2 HQ2 HRW
        have z0 := a1.frozen 0; have z1 := a1.frozen 1; have z2 := a1.frozen 2; have z3 := a1.frozen 3; have z4 := a1.frozen 4; have z5 := a1.frozen 5; have z6 := a1.frozen 6; have zl := a1.lt
        have y0 := a1.cell 0; have y1 := a1.cell 1; have y2 := a1.cell 2; have y3 := a1.cell 3; have y4 := a1.cell 4; have y5 := a1.cell 5; have y6 := a1.cell 6
        simp at y0 y1 y2 y3 y4 y5 y6
        have F1 := Lib.hid (tree_store a1 (.string ⟨#[]⟩) (.int .i64 0) (.int .i64 0) (.int .i64 0) (.int .i64 0) (.slice none 0 0) (.slice none 0 0))
        have F2 := Lib.hid (below_set7 HBW.out HBB.out (.string ⟨#[]⟩) (.int .i64 0) (.int .i64 0) (.int .i64 0) (.int .i64 0) (.slice none 0 0) (.slice none 0 0))
        clear a1
        go_wp2_with fail
        go_region
        all_goals go_wp2_with fail
        generalize World.setCell (World.setCell (World.setCell (World.setCell (World.setCell (World.setCell (World.setCell w3 _ _) _ _) _ _) _ _) _ _) _ _) _ _ = W9 at F1 F2 ⊢
        have e0 := F1.out.cell 0; have e1 := F1.out.cell 1; have e2 := F1.out.cell 2; have e3 := F1.out.cell 3; have e4 := F1.out.cell 4; have e5 := F1.out.cell 5; have e6 := F1.out.cell 6
        simp at e0 e1 e2 e3 e4 e5 e6
        (try simp only [Exit.inBlock, Exit.then])
        refine bodyPost_ret (v := .tuple #[.agg #[.string ⟨#[]⟩, .int .i64 0, .int .i64 0, .int .i64 0, .int .i64 0, .slice none 0 0, .slice none 0 0], .int .i64 (i : Int), .int .i64 c]) ?_ rfl ?_
        · simp [results, Tryz.results82, go_sem, e0, e1, e2, e3, e4, e5, e6]
        · exact (by rw [HR.out]; exact ⟨rfl, by have := F2.out; (repeat' (first | exact bxR _ _ | assumption | refine bxD ?_ | refine bxN ?_ _ | refine bxA ?_ _ | refine bxS ?_ ?_ _ | refine bxT ?_ (by assumption) | refine bxW ?_ (by assumption) | exact Nat.le_refl _ | omega | (simp; done) | (simp; omega)))⟩)
      | good t' =>
        obtain ⟨rfl, ⟨v', hv', htr'⟩, hbl⟩ := hp
        have hro := rowP_ok HRW.out HOL.out HOK.out
        have HREL := Lib.hid (show ∃ (rem' : List UInt8) (i' : Nat) (t'' : PRule) (v'' : Value) (g0 : Nat), (.string Q : Value) = .string ⟨rem'.toArray⟩ ∧ (.int .i64 ((i : Int) + 1) : Value) = .int .i64 i' ∧ i' + rem'.length ≤ 4000 ∧ linesP f 0 (linesOf sl) rule0 = linesP f i' (linesOf rem') t'' ∧ t''.ms.length ≤ i' ∧ (i' ≤ 4 → t''.ms = [] ∧ v'' = .slice none 0 0) ∧ OKt t'' ∧ Tr w3 tb g0 t'' v'' ∧ At w3 B zT ∧ Below w.heap.size w w3 from
          ⟨cutR rem 10, i + 1, t', v', g, by rw [HQQ.out], rfl, HIL.out, by rw [HQ2.out], by have := hro.2.2; omega, fun h => by
            have h0 := H34.out (by omega)
            have hm : t'.ms = [] := by rw [hro.2.1 (by omega)]; exact h0.1
            exact ⟨hm, by rw [hv' hm]; exact h0.2⟩, hro.1, htr', A2.out.below hbl hBt, ⟨hbl.os.trans B2.out.os, hbl.tape.trans B2.out.tape, hbl.output.trans B2.out.output, Nat.le_trans B2.out.size hbl.size, fun b hb => (hbl.block b (Nat.lt_of_lt_of_le hb HTT.out)).trans (B2.out.block b hb)⟩⟩)
        clear htr' hv' hbl hro R2 T2 A2 B2 HQ2 HRW HQQ HIL HOL
        go_wp2_with fail
        go_roundw
        case rel => exact HREL.out
        case measure => exact HM.out
end Go.Proofs.YtdmkghgachapaabGreatDoor
