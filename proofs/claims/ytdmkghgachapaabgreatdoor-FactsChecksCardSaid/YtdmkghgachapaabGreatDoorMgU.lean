/- Several texts in one: Comp1, Comp2. -/
import Derived.Test.YtdmkghgachapaabGreatDoorMgO
import Derived.Test.YtdmkghgachapaabGreatDoorTree8
import Derived.Deep.RegionHeld3
import Derived.Test.YtdmkghgachapaabGreatDoorMgA
import Derived.Test.YtdmkghgachapaabGreatDoorTree4
set_option linter.unusedSimpArgs false
namespace Go.Proofs.YtdmkghgachapaabGreatDoor
set_option linter.unusedVariables false
set_option maxRecDepth 100000
open Go.RowKit
theorem Tryz.infoIntC : (Tryz.prog.info? 3).map (fun i => (i.zero, i.size, i.bytes)) = some (some (.int .i64 0), 1, 8) := by kernel_rfl
def compTo (t : Tree) : Nat → Int × List Int
  | 0 => (0, [])
  | k + 1 => if (compTo t k).1 ≠ 0 then compTo t k else if (evalGo t ((k : Int) + 1)).2 ≠ 0 then ((evalGo t ((k : Int) + 1)).2, []) else (0, (compTo t k).2 ++ (if (evalGo t ((k : Int) + 1)).1 ≠ 0 then [(k : Int) + 1] else []))
theorem compTo_succ (t : Tree) (k : Nat) : compTo t (k + 1) = if (compTo t k).1 ≠ 0 then compTo t k else if (evalGo t ((k : Int) + 1)).2 ≠ 0 then ((evalGo t ((k : Int) + 1)).2, []) else (0, (compTo t k).2 ++ (if (evalGo t ((k : Int) + 1)).1 ≠ 0 then [(k : Int) + 1] else [])) := rfl
theorem compTo_stop (t : Tree) (k : Nat) (h : (compTo t k).1 ≠ 0) : ∀ j, k ≤ j → compTo t j = compTo t k
  | 0, hj => by
    have e : k = 0 := by omega
    rw [e]
  | j + 1, hj => by
    rcases Nat.lt_or_ge j k with h1 | h1
    · have e : k = j + 1 := by omega
      rw [e]
    · rw [compTo_succ, compTo_stop t k h j h1, if_pos h]
theorem compTo_err {t : Tree} {k : Nat} {e : Int} {zs : List Int} (h : compTo t k = (0, zs)) (he : (evalGo t ((k : Int) + 1)).2 = e) (h0 : e ≠ 0) : compTo t (k + 1) = (e, []) := by
  rw [compTo_succ, h, if_neg (by simp), he, if_pos h0]
theorem compTo_yes {t : Tree} {k : Nat} {zs : List Int} (h : compTo t k = (0, zs)) (he : (evalGo t ((k : Int) + 1)).2 = 0) (hv : (evalGo t ((k : Int) + 1)).1 ≠ 0) : compTo t (k + 1) = (0, zs ++ [(k : Int) + 1]) := by
  rw [compTo_succ, h, if_neg (by simp), if_neg (by omega), if_pos hv]
theorem compTo_no {t : Tree} {k : Nat} {zs : List Int} (h : compTo t k = (0, zs)) (he : (evalGo t ((k : Int) + 1)).2 = 0) (hv : (evalGo t ((k : Int) + 1)).1 = 0) : compTo t (k + 1) = (0, zs) := by
  rw [compTo_succ, h, if_neg (by simp), if_neg (by omega), if_neg (by omega)]; simp
def compErr (s : ByteArray) (f c : Int) (t : Tree) (ms : List Mon) : Int := if ruleErr s f c t ms ≠ 0 then ruleErr s f c t ms else (compTo t c.toNat).1
def CompPost (s : ByteArray) (f c : Int) (t : Tree) (ms : List Mon) (w : World) (e : Ending) (w' : World) : Prop :=
  (compErr s f c t ms ≠ 0 ∧ e = .returned (.tuple #[.agg #[.string ⟨#[]⟩, .int .i64 0, .int .i64 0, .slice none 0 0, .slice none 0 0], .int .i64 (compErr s f c t ms)]) ∧ Below w.heap.size w w') ∨
  (compErr s f c t ms = 0 ∧ ∃ a1 n1 c1 a2 n2 c2, e = .returned (.tuple #[.agg #[.string s, .int .i64 f, .int .i64 c, .slice a1 n1 c1, .slice a2 n2 c2], .int .i64 0]) ∧ n1 ≤ c1 ∧ n2 ≤ c2 ∧ Months w' w'.heap.size a1 n1 ms ∧ Ints w' w'.heap.size a2 n2 (compTo t c.toNat).2 ∧ Below w.heap.size w w')
theorem compTo_mem {t : Tree} : ∀ (k : Nat) (z : Int), z ∈ (compTo t k).2 → 1 ≤ z ∧ z ≤ k
  | 0, z, h => by simp [compTo] at h
  | k + 1, z, h => by
    rw [compTo_succ] at h
    split at h
    · have := compTo_mem k z h; omega
    · split at h
      · simp at h
      · rcases List.mem_append.1 h with h | h
        · have := compTo_mem k z h; omega
        · split at h
          · simp at h; omega
          · simp at h
theorem monthsErr_len {ms : List Mon} (h : monthsErr ms = 0) : 1 ≤ ms.length ∧ ms.length ≤ 20 := by
  unfold monthsErr at h
  split at h
  · cases h
  · omega
theorem ruleErr_parts {s : ByteArray} {f c : Int} {t : Tree} {ms : List Mon} (h : ruleErr s f c t ms = 0) : headErr s f c = 0 ∧ exprErr t = 0 ∧ monthsErr ms = 0 := by
  unfold ruleErr at h
  split at h
  · contradiction
  · split at h
    · contradiction
    · exact ⟨by omega, by omega, h⟩
theorem headErr_cyc {s : ByteArray} {f c : Int} (h : headErr s f c = 0) : 1 ≤ c ∧ c ≤ 3000 := by
  unfold headErr at h
  split at h
  · cases h
  · split at h
    · cases h
    · rename_i h2
      rw [Bool.not_eq_false, Bool.and_eq_true] at h2
      exact inB_iff.1 h2.2
end Go.Proofs.YtdmkghgachapaabGreatDoor

set_option linter.unusedSimpArgs false
namespace Go.Proofs.YtdmkghgachapaabGreatDoor
set_option linter.unusedVariables false
set_option maxRecDepth 100000
open Go.RowKit
theorem own_nearC {w : World} {base : Nat} {e : TypeId} {size : Nat} {v : Value} {n : Nat} {xs : List Value} (h : w.ownsRow base e size v n xs) {b : Nat} (hb : b < base) : some b ≠ v.ownBlock := by
  rcases h.2 with ⟨rfl, _⟩ | ⟨g, cap, cur, rfl, hg, _⟩
  · simp [Value.ownBlock]
  · simp [Value.ownBlock]; omega
theorem own_setC {w : World} {base : Nat} {e : TypeId} {size : Nat} {v : Value} {n : Nat} {xs : List Value} (h : w.ownsRow base e size v n xs) {p : Addr} (hp : p.block < base) (u : Value) : (w.setCell p u).ownsRow base e size v n xs := by
  refine ⟨h.1, ?_⟩
  rcases h.2 with h0 | ⟨g, cap, cur, hv, hg, hat, rest⟩
  · exact .inl h0
  · exact .inr ⟨g, cap, cur, hv, hg, (Below.heap_setCell w p u g (by omega)).trans hat, rest⟩
theorem own_thenC {w w' : World} {base : Nat} {e : TypeId} {size : Nat} {v : Value} {n : Nat} {xs : List Value} (h : w.ownsRow base e size v n xs) (hb : Below w.heap.size w w') : w'.ownsRow base e size v n xs := by
  refine ⟨h.1, ?_⟩
  rcases h.2 with h0 | ⟨g, cap, cur, hv, hg, hat, rest⟩
  · exact .inl h0
  · exact .inr ⟨g, cap, cur, hv, hg, (show At w g _ from hat).then_ hb, rest⟩
theorem At.grownC {w w' : World} {b : Nat} {o : Obj} {row : Option Nat} (h : At w b o) (hg : w.grownBy w' row) (hne : some b ≠ row) : At w' b o := (hg.block b h.lt hne).trans h
set_option maxHeartbeats 8000000 in
theorem ref_Compile (w : World) (s : ByteArray) (f c k m : Int) (ks : List Tree) (a1 a2 : Option Addr) (n1 c1 n2 c2 : Nat) (ms : List Mon) (hs : s.size ≤ 9223372036854775807) (k1 : n1 ≤ c1) (m1 : c1 ≤ 9223372036854775807) (k2 : n2 ≤ c2)
    (h1 : SubAt w w.heap.size (.node k m ks) a1 n1) (h2 : Months w w.heap.size a2 n2 ms) :
    Calls Tryz.prog 74 #[.agg #[.string s, .int .i64 f, .int .i64 c, .int .i64 k, .int .i64 m, .slice a1 n1 c1, .slice a2 n2 c2]] w (CompPost s f c (.node k m ks) ms w) := by
  obtain ⟨i0, hi, hz0, hz1, hz2⟩ := info_parts Tryz.infoIntC
  have H1 := Lib.hid h1; have H2 := Lib.hid h2; have L2 := Lib.hid h2.len; clear h1 h2
  have HO := Lib.hid (show compErr s f c (.node k m ks) ms = if ruleErr s f c (.node k m ks) ms ≠ 0 then ruleErr s f c (.node k m ks) ms else (compTo (.node k m ks) c.toNat).1 from rfl)
  go_enter Tryz.func74, Tryz.ntmps74
  go_wp2_with fail
  have a0 := (At.new w (.cells #[.string s, .int .i64 f, .int .i64 c, .int .i64 k, .int .i64 m, .slice a1 n1 c1, .slice a2 n2 c2] 113)).alloc (.cells #[.string ⟨#[]⟩, .int .i64 0, .int .i64 0, .slice none 0 0, .slice none 0 0] 92)
  have ar := At.new1 w (.cells #[.string s, .int .i64 f, .int .i64 c, .int .i64 k, .int .i64 m, .slice a1 n1 c1, .slice a2 n2 c2] 113) (.cells #[.string ⟨#[]⟩, .int .i64 0, .int .i64 0, .slice none 0 0, .slice none 0 0] 92)
  have b0 : Below w.heap.size w ((w.alloc (.cells #[.string s, .int .i64 f, .int .i64 c, .int .i64 k, .int .i64 m, .slice a1 n1 c1, .slice a2 n2 c2] 113)).alloc (.cells #[.string ⟨#[]⟩, .int .i64 0, .int .i64 0, .slice none 0 0, .slice none 0 0] 92)) := by (repeat' (first | exact bxR _ _ | assumption | refine bxD ?_ | refine bxN ?_ _ | refine bxA ?_ _ | refine bxS ?_ ?_ _ | refine bxT ?_ (by assumption) | refine bxW ?_ (by assumption) | exact Nat.le_refl _ | omega | (simp; done) | (simp; omega)))
  generalize World.alloc (World.alloc w _) _ = W0 at a0 ar b0 ⊢
  refine (ref_RuleError _ s f c k m ks a1 a2 n1 c1 n2 c2 ms hs k1 m1 k2 (H1.out.then_ b0) (H2.out.far (Below.refl _ _) b0)).mono ?_
  by_cases q : ruleErr s f c (.node k m ks) ms = 0
  case neg =>
    have hf := Lib.hid (HO.out.trans (if_pos q))
    have Q := Lib.hid q
    have q' : (ruleErr s f c (.node k m ks) ms != 0) = true := by simpa using q
    generalize ruleErr s f c (.node k m ks) ms = E at hf Q q' ⊢
    rintro e w1 ⟨rfl, hb⟩
    clear q HO
    replace b0 := below_then b0 hb
    replace ar := ar.then_ hb
    clear hb a0
    have f0 : w1.frozen? ⟨w.heap.size + 1, 0, none⟩ = false := ar.frozen 0
    have f1 : w1.frozen? ⟨w.heap.size + 1, 1, none⟩ = false := ar.frozen 1
    have f2 : w1.frozen? ⟨w.heap.size + 1, 2, none⟩ = false := ar.frozen 2
    have f3 : w1.frozen? ⟨w.heap.size + 1, 3, none⟩ = false := ar.frozen 3
    have f4 : w1.frozen? ⟨w.heap.size + 1, 4, none⟩ = false := ar.frozen 4
    have z0 : w1.cell? ⟨w.heap.size + 1, 0, none⟩ = some (.string ⟨#[]⟩) := ar.cell 0
    have z1 : w1.cell? ⟨w.heap.size + 1, 1, none⟩ = some (.int .i64 0) := ar.cell 1
    have z2 : w1.cell? ⟨w.heap.size + 1, 2, none⟩ = some (.int .i64 0) := ar.cell 2
    have z3 : w1.cell? ⟨w.heap.size + 1, 3, none⟩ = some (.slice none 0 0) := ar.cell 3
    have z4 : w1.cell? ⟨w.heap.size + 1, 4, none⟩ = some (.slice none 0 0) := ar.cell 4
    have AR := Lib.hid ar; clear ar
    go_wp2_with fail
    have AF := AR.out.store5 (.string ⟨#[]⟩) (.int .i64 0) (.int .i64 0) (.slice none 0 0) (.slice none 0 0)
    have y0 : (((((w1.setCell ⟨w.heap.size + 1, 0, none⟩ (.string ⟨#[]⟩)).setCell ⟨w.heap.size + 1, 1, none⟩ (.int .i64 0)).setCell ⟨w.heap.size + 1, 2, none⟩ (.int .i64 0)).setCell ⟨w.heap.size + 1, 3, none⟩ (.slice none 0 0)).setCell ⟨w.heap.size + 1, 4, none⟩ (.slice none 0 0)).cell? ⟨w.heap.size + 1, 0, none⟩ = some (.string ⟨#[]⟩) := AF.cell 0
    have y1 : (((((w1.setCell ⟨w.heap.size + 1, 0, none⟩ (.string ⟨#[]⟩)).setCell ⟨w.heap.size + 1, 1, none⟩ (.int .i64 0)).setCell ⟨w.heap.size + 1, 2, none⟩ (.int .i64 0)).setCell ⟨w.heap.size + 1, 3, none⟩ (.slice none 0 0)).setCell ⟨w.heap.size + 1, 4, none⟩ (.slice none 0 0)).cell? ⟨w.heap.size + 1, 1, none⟩ = some (.int .i64 0) := AF.cell 1
    have y2 : (((((w1.setCell ⟨w.heap.size + 1, 0, none⟩ (.string ⟨#[]⟩)).setCell ⟨w.heap.size + 1, 1, none⟩ (.int .i64 0)).setCell ⟨w.heap.size + 1, 2, none⟩ (.int .i64 0)).setCell ⟨w.heap.size + 1, 3, none⟩ (.slice none 0 0)).setCell ⟨w.heap.size + 1, 4, none⟩ (.slice none 0 0)).cell? ⟨w.heap.size + 1, 2, none⟩ = some (.int .i64 0) := AF.cell 2
    have y3 : (((((w1.setCell ⟨w.heap.size + 1, 0, none⟩ (.string ⟨#[]⟩)).setCell ⟨w.heap.size + 1, 1, none⟩ (.int .i64 0)).setCell ⟨w.heap.size + 1, 2, none⟩ (.int .i64 0)).setCell ⟨w.heap.size + 1, 3, none⟩ (.slice none 0 0)).setCell ⟨w.heap.size + 1, 4, none⟩ (.slice none 0 0)).cell? ⟨w.heap.size + 1, 3, none⟩ = some (.slice none 0 0) := AF.cell 3
    have y4 : (((((w1.setCell ⟨w.heap.size + 1, 0, none⟩ (.string ⟨#[]⟩)).setCell ⟨w.heap.size + 1, 1, none⟩ (.int .i64 0)).setCell ⟨w.heap.size + 1, 2, none⟩ (.int .i64 0)).setCell ⟨w.heap.size + 1, 3, none⟩ (.slice none 0 0)).setCell ⟨w.heap.size + 1, 4, none⟩ (.slice none 0 0)).cell? ⟨w.heap.size + 1, 4, none⟩ = some (.slice none 0 0) := AF.cell 4
    exact bodyPost_ret (v := .tuple #[.agg #[.string ⟨#[]⟩, .int .i64 0, .int .i64 0, .slice none 0 0, .slice none 0 0], .int .i64 E]) (by simp [results, Tryz.results74, go_sem, y0, y1, y2, y3, y4]) rfl (.inl ⟨by rw [hf.out]; exact Q.out, by rw [hf.out], below_set5 b0 (by omega) _ _ _ _ _⟩)
  obtain ⟨q1, q2, q3⟩ := ruleErr_parts q
  obtain ⟨cy1, cy2⟩ := headErr_cyc q1
  obtain ⟨C, rfl⟩ : ∃ C : Nat, c = (C : Int) := ⟨c.toNat, by omega⟩
  have hf := Lib.hid (show compErr s f (C : Int) (.node k m ks) ms = (compTo (.node k m ks) C).1 from (HO.out.trans (if_neg (by omega))))
  have OK := Lib.hid (exprErr_ok q2)
  rw [q]
  clear q HO q1 q2 q3
  rintro e w1 ⟨rfl, hb⟩
  replace b0 := below_then b0 hb
  replace ar := ar.then_ hb
  replace a0 := a0.then_ hb
  clear hb
  have hl0 := a0.lt; have hl1 := ar.lt
  have d0 := a0.cell 0; have d1 := a0.cell 1; have d2 := a0.cell 2; have d3 := a0.cell 3; have d4 := a0.cell 4; have d5 := a0.cell 5; have d6 := a0.cell 6; simp at d0 d1 d2 d3 d4 d5 d6
  go_wp2_with fail
  clear d0 d1 d2 d3 d4 d5 d6
  have ac := At.new w1 (.cells #[.string s, .int .i64 f, .int .i64 (C : Int), .slice a2 n2 c2, .slice none 0 0] 92)
  have bc := below_new (Below.refl w1.heap.size w1) (.cells #[.string s, .int .i64 f, .int .i64 (C : Int), .slice a2 n2 c2, .slice none 0 0] 92)
  generalize World.alloc w1 _ = W1 at ac bc ⊢
  have A0 := Lib.hid a0; have AR := Lib.hid ar; have B0 := Lib.hid b0
  clear a0 ar b0
  generalize hG : w1.heap.size = G at *
  go_loopw [6, 7, 8] (fun vy _ _ wr => ∃ (j : Nat) (zs : List Int) (v : Value), j ≤ C ∧ vy = .int .i64 ((j : Int) + 1) ∧ compTo (.node k m ks) j = (0, zs) ∧ wr.ownsRow (G + 1) 3 1 v zs.length (zs.map (Value.int .i64)) ∧ zs.length ≤ j ∧ At wr G (.cells #[.string s, .int .i64 f, .int .i64 (C : Int), .slice a2 n2 c2, v] 92) ∧ Below G w1 wr) (fun vy _ _ _ => C + 1 - (intOf vy).toNat)
  case atStart => exact ⟨0, [], .slice none 0 0, by omega, rfl, rfl, World.ownsRow_nil _ _ _ _, by simp, ac, bc⟩
  case round =>
    clear ac bc
    obtain ⟨j, zs, v, hj, rfl, hct, hown, hzl, ac, bw⟩ := hrel
    have HCT := Lib.hid hct; have OWN := Lib.hid hown; clear hct hown
    have bw' : Below w1.heap.size w1 wr := by rw [hG]; exact bw
    have a0 := A0.out.then_ bw'
    have ar := AR.out.then_ bw'
    have b0 := below_then B0.out bw'
    have hgl := ac.lt
    have d0 := a0.cell 0; have d1 := a0.cell 1; have d2 := a0.cell 2; have d3 := a0.cell 3; have d4 := a0.cell 4; have d5 := a0.cell 5; have d6 := a0.cell 6; simp at d0 d1 d2 d3 d4 d5 d6
    by_cases hlt : j < C
    · have hev := ref_Eval ((j : Int) + 1) (by omega) (by omega) (.node k m ks) wr a1 n1 c1 (H1.out.then_ b0) OK.out k1 m1
      simp only [Tree.kind, Tree.num] at hev
      unfold EvalPost at hev
      obtain ⟨r, hr⟩ : ∃ r, r = evalGo (.node k m ks) ((j : Int) + 1) := ⟨_, rfl⟩
      rw [← hr] at hev
      have HR := Lib.hid hr; clear hr
      obtain ⟨v1, ev⟩ := r
      simp only at hev
      have HEV := Lib.hid hev; clear hev
      have AR1 := Lib.hid ar; have B1 := Lib.hid b0; have AC := Lib.hid ac
      clear ar b0 ac a0
      by_cases hz : ev = 0
      case neg =>
        have hz' : (ev != 0) = true := by simpa using hz
        have Q := Lib.hid hz
        have hct := compTo_err HCT.out (by rw [← HR.out]) hz
        have hF := Lib.hid (show compErr s f (C : Int) (.node k m ks) ms = ev by rw [hf.out, compTo_stop (.node k m ks) (j + 1) (by rw [hct]; exact hz) C (by omega), hct])
        clear hz hct
        go_wp2_with fail
        refine HEV.out.mono ?_
        rintro e w2 ⟨rfl, hb⟩
        have ar := AR1.out.then_ hb
        have b0 := below_then B1.out hb
        clear hb d0 d1 d2 d3 d4 d5 d6
        have f0 : w2.frozen? ⟨w.heap.size + 1, 0, none⟩ = false := ar.frozen 0
        have f1 : w2.frozen? ⟨w.heap.size + 1, 1, none⟩ = false := ar.frozen 1
        have f2 : w2.frozen? ⟨w.heap.size + 1, 2, none⟩ = false := ar.frozen 2
        have f3 : w2.frozen? ⟨w.heap.size + 1, 3, none⟩ = false := ar.frozen 3
        have f4 : w2.frozen? ⟨w.heap.size + 1, 4, none⟩ = false := ar.frozen 4
        have z0 : w2.cell? ⟨w.heap.size + 1, 0, none⟩ = some (.string ⟨#[]⟩) := ar.cell 0
        have z1 : w2.cell? ⟨w.heap.size + 1, 1, none⟩ = some (.int .i64 0) := ar.cell 1
        have z2 : w2.cell? ⟨w.heap.size + 1, 2, none⟩ = some (.int .i64 0) := ar.cell 2
        have z3 : w2.cell? ⟨w.heap.size + 1, 3, none⟩ = some (.slice none 0 0) := ar.cell 3
        have z4 : w2.cell? ⟨w.heap.size + 1, 4, none⟩ = some (.slice none 0 0) := ar.cell 4
        have AR := Lib.hid ar; clear ar
        go_wp2_with fail
        have AF := AR.out.store5 (.string ⟨#[]⟩) (.int .i64 0) (.int .i64 0) (.slice none 0 0) (.slice none 0 0)
        have y0 : (((((w2.setCell ⟨w.heap.size + 1, 0, none⟩ (.string ⟨#[]⟩)).setCell ⟨w.heap.size + 1, 1, none⟩ (.int .i64 0)).setCell ⟨w.heap.size + 1, 2, none⟩ (.int .i64 0)).setCell ⟨w.heap.size + 1, 3, none⟩ (.slice none 0 0)).setCell ⟨w.heap.size + 1, 4, none⟩ (.slice none 0 0)).cell? ⟨w.heap.size + 1, 0, none⟩ = some (.string ⟨#[]⟩) := AF.cell 0
        have y1 : (((((w2.setCell ⟨w.heap.size + 1, 0, none⟩ (.string ⟨#[]⟩)).setCell ⟨w.heap.size + 1, 1, none⟩ (.int .i64 0)).setCell ⟨w.heap.size + 1, 2, none⟩ (.int .i64 0)).setCell ⟨w.heap.size + 1, 3, none⟩ (.slice none 0 0)).setCell ⟨w.heap.size + 1, 4, none⟩ (.slice none 0 0)).cell? ⟨w.heap.size + 1, 1, none⟩ = some (.int .i64 0) := AF.cell 1
        have y2 : (((((w2.setCell ⟨w.heap.size + 1, 0, none⟩ (.string ⟨#[]⟩)).setCell ⟨w.heap.size + 1, 1, none⟩ (.int .i64 0)).setCell ⟨w.heap.size + 1, 2, none⟩ (.int .i64 0)).setCell ⟨w.heap.size + 1, 3, none⟩ (.slice none 0 0)).setCell ⟨w.heap.size + 1, 4, none⟩ (.slice none 0 0)).cell? ⟨w.heap.size + 1, 2, none⟩ = some (.int .i64 0) := AF.cell 2
        have y3 : (((((w2.setCell ⟨w.heap.size + 1, 0, none⟩ (.string ⟨#[]⟩)).setCell ⟨w.heap.size + 1, 1, none⟩ (.int .i64 0)).setCell ⟨w.heap.size + 1, 2, none⟩ (.int .i64 0)).setCell ⟨w.heap.size + 1, 3, none⟩ (.slice none 0 0)).setCell ⟨w.heap.size + 1, 4, none⟩ (.slice none 0 0)).cell? ⟨w.heap.size + 1, 3, none⟩ = some (.slice none 0 0) := AF.cell 3
        have y4 : (((((w2.setCell ⟨w.heap.size + 1, 0, none⟩ (.string ⟨#[]⟩)).setCell ⟨w.heap.size + 1, 1, none⟩ (.int .i64 0)).setCell ⟨w.heap.size + 1, 2, none⟩ (.int .i64 0)).setCell ⟨w.heap.size + 1, 3, none⟩ (.slice none 0 0)).setCell ⟨w.heap.size + 1, 4, none⟩ (.slice none 0 0)).cell? ⟨w.heap.size + 1, 4, none⟩ = some (.slice none 0 0) := AF.cell 4
        exact bodyPost_ret (v := .tuple #[.agg #[.string ⟨#[]⟩, .int .i64 0, .int .i64 0, .slice none 0 0, .slice none 0 0], .int .i64 ev]) (by simp [results, Tryz.results74, go_sem, y0, y1, y2, y3, y4]) rfl (.inl ⟨by rw [hF.out]; exact Q.out, by rw [hF.out], below_set5 b0 (by omega) _ _ _ _ _⟩)
      subst hz
      by_cases hv : v1 = 0
      · have hv' : (v1 != 0) = false := by simpa using hv
        have HN := Lib.hid (compTo_no HCT.out (by rw [← HR.out]) (by rw [← HR.out]; exact hv))
        clear hv
        go_wp2_with fail
        refine HEV.out.mono ?_
        rintro e w2 ⟨rfl, hb⟩
        go_wp2_with fail
        go_roundw
        case rel => exact ⟨j + 1, zs, v, by omega, by go_num, HN.out, own_thenC OWN.out hb, by omega, AC.out.then_ hb, bw.trans (hb.mono (by omega))⟩
        case measure => first | (simp [intOf]; done) | (simp [intOf]; omega)
      · have hv' : (v1 != 0) = true := by simpa using hv
        have HN := Lib.hid (compTo_yes HCT.out (by rw [← HR.out]) (by rw [← HR.out]; exact hv))
        clear hv
        go_wp2_with fail
        refine HEV.out.mono ?_
        rintro e w2 ⟨rfl, hb⟩
        have ac2 := AC.out.then_ hb
        have bw2 := bw.trans (hb.mono (by omega))
        have OWN2 := Lib.hid (own_thenC OWN.out hb)
        have hg2 := ac2.lt
        have x4 : w2.cell? ⟨G, 4, none⟩ = some v := ac2.cell 4
        have AC2 := Lib.hid ac2; have BW2 := Lib.hid bw2
        clear hb d0 d1 d2 d3 d4 d5 d6 ac2 bw2 bw bw'
        generalize hT : (j : Int) + 1 = T at *
        have HT := Lib.hid hT
        obtain ⟨T1, T2⟩ : 1 ≤ T ∧ T ≤ 3000 := by omega
        clear hT
        go_wp2_with (at_builtin; refine wpList_append_own _ rfl _ _ 90 rfl (G + 1) 3 i0 (.int .i64 0) 1 8 Tryz.underlying90 hi hz0 hz1 hz2 rfl (by decide) _ _ _ rfl (OWN2.out.alloc _) ⟨w2.heap.size, 0, none⟩ 1 1 [.int .i64 T] rfl rfl ?c1 ?c2 ?c3 ?c4 ?c5 ?_)
        case c1 =>
          intro i u hj
          match i, hj with
          | 0, hj => simp at hj; subst hj; simp [Addr.add]
        case c2 => intro u hu; simp at hu; subst hu; rfl
        case c3 => unfold maxLen; omega
        case c4 => omega
        case c5 => simp; omega
        intro v' w4 hown' hgrow _
        obtain ⟨gg, cap, hv, hg4, hl4⟩ := hown'.form (by omega)
        subst hv
        have ac4 := (AC2.out.alloc (.cells #[.int .i64 T] 3)).grownC hgrow (own_nearC OWN2.out (by omega))
        have bw4 : Below G w1 w4 := ((BW2.out).alloc (by omega) (.cells #[.int .i64 T] 3)).grown hgrow (by simp; omega) (fun b hb => by
          rcases Nat.lt_or_ge b (G + 1) with h | h
          · exact absurd hb.symm (own_nearC OWN2.out h)
          · omega)
        have y4 : w4.cell? ⟨G, 4, none⟩ = some v := ac4.cell 4
        have y5 : w4.frozen? ⟨G, 4, none⟩ = false := ac4.frozen 4
        have OWN4 := Lib.hid hown'; have AC4 := Lib.hid ac4
        clear hown' hgrow ac4
        go_wp2_with fail
        go_roundw
        case rel =>
          refine ⟨j + 1, zs ++ [T], .slice (some ⟨gg, 0, none⟩) (zs.length + 1) cap, by omega, by have h1 := HT.out; rw [show T + 1 = ((j + 1 : Nat) : Int) + 1 by omega], HN.out, ?_, by simp; omega, AC4.out.store 4 _, below_set bw4 (by simp) _⟩
          rw [List.length_append, List.map_append]
          exact own_setC OWN4.out (by simp) _
        case measure => first | (simp [intOf]; done) | (simp [intOf]; omega) | (have h1 := HT.out; have h2 := hlt; simp only [intOf]; omega)
    · obtain rfl : j = C := by omega
      have HF := Lib.hid (show compErr s f (j : Int) (.node k m ks) ms = 0 by rw [hf.out, HCT.out])
      obtain ⟨aa, cc, rfl, hc1, hc2, _⟩ := own_ints OWN.out (fun z hz => by have := compTo_mem (t := .node k m ks) j z (by rw [HCT.out]; exact hz); unfold I64; omega) rfl
      have HI0 := Lib.hid (show ∀ z ∈ zs, I64 z from fun z hz => by have := compTo_mem (t := .node k m ks) j z (by rw [HCT.out]; exact hz); unfold I64; omega)
      have g0 := ac.cell 0; have g1 := ac.cell 1; have g2 := ac.cell 2; have g3 := ac.cell 3; have g4 := ac.cell 4; simp at g0 g1 g2 g3 g4
      have f0 : wr.frozen? ⟨w.heap.size + 1, 0, none⟩ = false := ar.frozen 0
      have f1 : wr.frozen? ⟨w.heap.size + 1, 1, none⟩ = false := ar.frozen 1
      have f2 : wr.frozen? ⟨w.heap.size + 1, 2, none⟩ = false := ar.frozen 2
      have f3 : wr.frozen? ⟨w.heap.size + 1, 3, none⟩ = false := ar.frozen 3
      have f4 : wr.frozen? ⟨w.heap.size + 1, 4, none⟩ = false := ar.frozen 4
      have z0 : wr.cell? ⟨w.heap.size + 1, 0, none⟩ = some (.string ⟨#[]⟩) := ar.cell 0
      have z1 : wr.cell? ⟨w.heap.size + 1, 1, none⟩ = some (.int .i64 0) := ar.cell 1
      have z2 : wr.cell? ⟨w.heap.size + 1, 2, none⟩ = some (.int .i64 0) := ar.cell 2
      have z3 : wr.cell? ⟨w.heap.size + 1, 3, none⟩ = some (.slice none 0 0) := ar.cell 3
      have z4 : wr.cell? ⟨w.heap.size + 1, 4, none⟩ = some (.slice none 0 0) := ar.cell 4
      have AR := Lib.hid ar; clear ar
      go_wp2_with fail
      have AF := AR.out.store5 (.string s) (.int .i64 f) (.int .i64 (j : Int)) (.slice a2 n2 c2) (.slice aa zs.length cc)
      have y0 : (((((wr.setCell ⟨w.heap.size + 1, 0, none⟩ (.string s)).setCell ⟨w.heap.size + 1, 1, none⟩ (.int .i64 f)).setCell ⟨w.heap.size + 1, 2, none⟩ (.int .i64 (j : Int))).setCell ⟨w.heap.size + 1, 3, none⟩ (.slice a2 n2 c2)).setCell ⟨w.heap.size + 1, 4, none⟩ (.slice aa zs.length cc)).cell? ⟨w.heap.size + 1, 0, none⟩ = some (.string s) := AF.cell 0
      have y1 : (((((wr.setCell ⟨w.heap.size + 1, 0, none⟩ (.string s)).setCell ⟨w.heap.size + 1, 1, none⟩ (.int .i64 f)).setCell ⟨w.heap.size + 1, 2, none⟩ (.int .i64 (j : Int))).setCell ⟨w.heap.size + 1, 3, none⟩ (.slice a2 n2 c2)).setCell ⟨w.heap.size + 1, 4, none⟩ (.slice aa zs.length cc)).cell? ⟨w.heap.size + 1, 1, none⟩ = some (.int .i64 f) := AF.cell 1
      have y2 : (((((wr.setCell ⟨w.heap.size + 1, 0, none⟩ (.string s)).setCell ⟨w.heap.size + 1, 1, none⟩ (.int .i64 f)).setCell ⟨w.heap.size + 1, 2, none⟩ (.int .i64 (j : Int))).setCell ⟨w.heap.size + 1, 3, none⟩ (.slice a2 n2 c2)).setCell ⟨w.heap.size + 1, 4, none⟩ (.slice aa zs.length cc)).cell? ⟨w.heap.size + 1, 2, none⟩ = some (.int .i64 (j : Int)) := AF.cell 2
      have y3 : (((((wr.setCell ⟨w.heap.size + 1, 0, none⟩ (.string s)).setCell ⟨w.heap.size + 1, 1, none⟩ (.int .i64 f)).setCell ⟨w.heap.size + 1, 2, none⟩ (.int .i64 (j : Int))).setCell ⟨w.heap.size + 1, 3, none⟩ (.slice a2 n2 c2)).setCell ⟨w.heap.size + 1, 4, none⟩ (.slice aa zs.length cc)).cell? ⟨w.heap.size + 1, 3, none⟩ = some (.slice a2 n2 c2) := AF.cell 3
      have y4 : (((((wr.setCell ⟨w.heap.size + 1, 0, none⟩ (.string s)).setCell ⟨w.heap.size + 1, 1, none⟩ (.int .i64 f)).setCell ⟨w.heap.size + 1, 2, none⟩ (.int .i64 (j : Int))).setCell ⟨w.heap.size + 1, 3, none⟩ (.slice a2 n2 c2)).setCell ⟨w.heap.size + 1, 4, none⟩ (.slice aa zs.length cc)).cell? ⟨w.heap.size + 1, 4, none⟩ = some (.slice aa zs.length cc) := AF.cell 4
      have bf := below_set5 b0 (show w.heap.size ≤ w.heap.size + 1 by omega) (.string s) (.int .i64 f) (.int .i64 (j : Int)) (.slice a2 n2 c2) (.slice aa zs.length cc)
      have ownf := own_setC (own_setC (own_setC (own_setC (own_setC OWN.out (p := ⟨w.heap.size + 1, 0, none⟩) (by simp; omega) (.string s)) (p := ⟨w.heap.size + 1, 1, none⟩) (by simp; omega) (.int .i64 f)) (p := ⟨w.heap.size + 1, 2, none⟩) (by simp; omega) (.int .i64 (j : Int))) (p := ⟨w.heap.size + 1, 3, none⟩) (by simp; omega) (.slice a2 n2 c2)) (p := ⟨w.heap.size + 1, 4, none⟩) (by simp; omega) (.slice aa zs.length cc)
      obtain ⟨ab, cb, hve, hq1, hq2, hI⟩ := own_ints ownf HI0.out rfl
      injection hve with hv1 _ hv3
      subst hv1 hv3
      exact bodyPost_ret (v := .tuple #[.agg #[.string s, .int .i64 f, .int .i64 (j : Int), .slice a2 n2 c2, .slice aa zs.length cc], .int .i64 0]) (by simp [results, Tryz.results74, go_sem, y0, y1, y2, y3, y4]) rfl (.inr ⟨HF.out, a2, n2, c2, aa, zs.length, cc, rfl, k2, hq1, H2.out.far (Below.refl _ _) bf, by rw [show ((j : Int)).toNat = j by omega, HCT.out]; exact hI, bf⟩)
end Go.Proofs.YtdmkghgachapaabGreatDoor
