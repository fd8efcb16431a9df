import Derived.Test.YtdmkghgachapaabGreatDoorMgU
import Derived.Test.YtdmkghgachapaabGreatDoorMgA
import Derived.Deep.RegionHeld3
import Derived.Deep.Cut
import Derived.Deep.CutRange
set_option linter.unusedSimpArgs false
namespace Go.Proofs.YtdmkghgachapaabGreatDoor
set_option linter.unusedVariables false
set_option maxRecDepth 100000
open Go.RowKit
theorem cell_alloc {w : World} {o : Obj} {p : Addr} {v : Value} (h : w.cell? p = some v) : (w.alloc o).cell? p = some v := by
  rcases Nat.lt_or_ge p.block w.heap.size with hp | hp
  · exact ((below_new (Below.refl w.heap.size w) o).cell hp).trans h
  · simp [World.cell?, Array.getElem?_eq_none hp] at h
theorem cell_heap {w w' : World} {p : Addr} {v : Value} (h : w'.heap[p.block]? = w.heap[p.block]?) (hv : w.cell? p = some v) : w'.cell? p = some v := by
  rw [← hv]; simp [World.cell?, h]
theorem cell_set5 {w : World} {G : Nat} {p : Addr} {v u0 u1 u2 u3 u4 : Value} (hne : p.block ≠ G) (hv : w.cell? p = some v) :
    (((((w.setCell ⟨G, 0, none⟩ u0).setCell ⟨G, 1, none⟩ u1).setCell ⟨G, 2, none⟩ u2).setCell ⟨G, 3, none⟩ u3).setCell ⟨G, 4, none⟩ u4).cell? p = some v := by
  have k : ∀ (w : World) (i : Nat) (u : Value), w.cell? p = some v → (w.setCell ⟨G, i, none⟩ u).cell? p = some v := fun w i u h => cell_heap (Below.heap_setCell w ⟨G, i, none⟩ u p.block hne) h
  exact k _ _ _ (k _ _ _ (k _ _ _ (k _ _ _ (k _ _ _ hv))))
theorem own_months_at {w : World} {base : Nat} {a : Option Addr} {n c : Nat} {ms : List Mon} (h : w.ownsRow base 128 3 (.slice a n c) n (ms.flatMap encM)) (h1 : 1 ≤ n) (hn : ms.length = n) (hok : ∀ x ∈ ms, okM x) :
    ∃ g cur, a = some ⟨g, 0, none⟩ ∧ base ≤ g ∧ At w g (.cells cur 128) ∧ ∀ w', At w' g (.cells cur 128) → Months w' w'.heap.size (some ⟨g, 0, none⟩) n ms := by
  rcases h.2 with ⟨_, h0⟩ | ⟨g, cap, cur, he, hb, hcur, hnc, hcm, hcs, htake⟩
  · omega
  · injection he with he1 he2 he3
    subst he1 he3
    refine ⟨g, cur, rfl, hb, hcur, fun w' hat => ?_⟩
    obtain ⟨a', c', he', _, _, hm⟩ := own_months (w := w') (base := base) (v := .slice (some ⟨g, 0, none⟩) n c) (ms := ms) ⟨h.1, .inr ⟨g, c, cur, rfl, hb, hat, hnc, hcm, hcs, htake⟩⟩ hn hok
    injection he' with q1 q2 q3
    subst q1
    exact hm
theorem OneKept.grown {b : Nat} {w w1 w2 : World} {row : Option Nat} (h : OneKept b w w1) (g : w1.grownBy w2 row) (hr : ∀ k, row = some k → w.heap.size ≤ k) : OneKept b w w2 :=
  ⟨g.os.trans h.os, g.tape.trans h.tape, g.output.trans h.output, Nat.le_trans h.size g.size, fun k hk hb => (g.block k (Nat.lt_of_lt_of_le hk h.size) (fun e => by have := hr k e.symm; omega)).trans (h.block k hk hb)⟩
set_option maxHeartbeats 8000000 in
theorem compile_Compile (w : World) (s : ByteArray) (f c k m : Int) (ks : List Tree) (a1 a2 : Option Addr) (n1 c1 n2 c2 : Nat) (ms : List Mon) (hs : s.size ≤ 9223372036854775807) (k1 : n1 ≤ c1) (m1 : c1 ≤ 9223372036854775807) (k2 : n2 ≤ c2)
    (h1 : SubAt w w.heap.size (.node k m ks) a1 n1) (h2 : Months w w.heap.size a2 n2 ms) :
    Calls Tryz.prog 70 #[.agg #[.string s, .int .i64 f, .int .i64 c, .int .i64 k, .int .i64 m, .slice a1 n1 c1, .slice a2 n2 c2]] w (CompPost s f c (.node k m ks) ms w) := by
  obtain ⟨i0, hi, hz0, hz1, hz2⟩ := info_parts Tryz.infoIntC
  have H1 := Lib.hid h1; have H2 := Lib.hid h2; have L2 := Lib.hid h2.len; clear h1 h2
  have HO := Lib.hid (show compErr s f c (.node k m ks) ms = if ruleErr s f c (.node k m ks) ms ≠ 0 then ruleErr s f c (.node k m ks) ms else (compTo (.node k m ks) c.toNat).1 from rfl)
  go_enter Tryz.func70, Tryz.ntmps70
  go_wp2_with fail
  have a0 := (At.new w (.cells #[.string s, .int .i64 f, .int .i64 c, .int .i64 k, .int .i64 m, .slice a1 n1 c1, .slice a2 n2 c2] 113)).alloc (.cells #[.string ⟨#[]⟩, .int .i64 0, .int .i64 0, .slice none 0 0, .slice none 0 0] 92)
  have ar := At.new1 w (.cells #[.string s, .int .i64 f, .int .i64 c, .int .i64 k, .int .i64 m, .slice a1 n1 c1, .slice a2 n2 c2] 113) (.cells #[.string ⟨#[]⟩, .int .i64 0, .int .i64 0, .slice none 0 0, .slice none 0 0] 92)
  have b0 : Below w.heap.size w ((w.alloc (.cells #[.string s, .int .i64 f, .int .i64 c, .int .i64 k, .int .i64 m, .slice a1 n1 c1, .slice a2 n2 c2] 113)).alloc (.cells #[.string ⟨#[]⟩, .int .i64 0, .int .i64 0, .slice none 0 0, .slice none 0 0] 92)) := by (repeat' (first | exact bxR _ _ | assumption | refine bxD ?_ | refine bxN ?_ _ | refine bxA ?_ _ | refine bxS ?_ ?_ _ | refine bxT ?_ (by assumption) | refine bxW ?_ (by assumption) | exact Nat.le_refl _ | omega | (simp; done) | (simp; omega)))
  generalize World.alloc (World.alloc w _) _ = W0 at a0 ar b0 ⊢
  refine (rule_Check _ s f c k m ks a1 a2 n1 c1 n2 c2 ms hs k1 m1 k2 (H1.out.then_ b0) (H2.out.far (Below.refl _ _) b0)).mono ?_
  by_cases q : ruleErr s f c (.node k m ks) ms = 0
  case neg =>
    have hf := Lib.hid (HO.out.trans (if_pos q))
    have Q := Lib.hid q
    have q' : (ruleErr s f c (.node k m ks) ms != 0) = true := by simpa using q
    generalize ruleErr s f c (.node k m ks) ms = E at hf Q q' ⊢
    rintro e w1 ⟨rfl, hb⟩
    clear q HO
    replace b0 := below_then b0 hb
    replace ar := ar.then_ hb
    clear hb a0
    have f0 : w1.frozen? ⟨w.heap.size + 1, 0, none⟩ = false := ar.frozen 0
    have f1 : w1.frozen? ⟨w.heap.size + 1, 1, none⟩ = false := ar.frozen 1
    have f2 : w1.frozen? ⟨w.heap.size + 1, 2, none⟩ = false := ar.frozen 2
    have f3 : w1.frozen? ⟨w.heap.size + 1, 3, none⟩ = false := ar.frozen 3
    have f4 : w1.frozen? ⟨w.heap.size + 1, 4, none⟩ = false := ar.frozen 4
    have z0 : w1.cell? ⟨w.heap.size + 1, 0, none⟩ = some (.string ⟨#[]⟩) := ar.cell 0
    have z1 : w1.cell? ⟨w.heap.size + 1, 1, none⟩ = some (.int .i64 0) := ar.cell 1
    have z2 : w1.cell? ⟨w.heap.size + 1, 2, none⟩ = some (.int .i64 0) := ar.cell 2
    have z3 : w1.cell? ⟨w.heap.size + 1, 3, none⟩ = some (.slice none 0 0) := ar.cell 3
    have z4 : w1.cell? ⟨w.heap.size + 1, 4, none⟩ = some (.slice none 0 0) := ar.cell 4
    have AR := Lib.hid ar; clear ar
    go_wp2_with fail
    have AF := AR.out.store5 (.string ⟨#[]⟩) (.int .i64 0) (.int .i64 0) (.slice none 0 0) (.slice none 0 0)
    have y0 : (((((w1.setCell ⟨w.heap.size + 1, 0, none⟩ (.string ⟨#[]⟩)).setCell ⟨w.heap.size + 1, 1, none⟩ (.int .i64 0)).setCell ⟨w.heap.size + 1, 2, none⟩ (.int .i64 0)).setCell ⟨w.heap.size + 1, 3, none⟩ (.slice none 0 0)).setCell ⟨w.heap.size + 1, 4, none⟩ (.slice none 0 0)).cell? ⟨w.heap.size + 1, 0, none⟩ = some (.string ⟨#[]⟩) := AF.cell 0
    have y1 : (((((w1.setCell ⟨w.heap.size + 1, 0, none⟩ (.string ⟨#[]⟩)).setCell ⟨w.heap.size + 1, 1, none⟩ (.int .i64 0)).setCell ⟨w.heap.size + 1, 2, none⟩ (.int .i64 0)).setCell ⟨w.heap.size + 1, 3, none⟩ (.slice none 0 0)).setCell ⟨w.heap.size + 1, 4, none⟩ (.slice none 0 0)).cell? ⟨w.heap.size + 1, 1, none⟩ = some (.int .i64 0) := AF.cell 1
    have y2 : (((((w1.setCell ⟨w.heap.size + 1, 0, none⟩ (.string ⟨#[]⟩)).setCell ⟨w.heap.size + 1, 1, none⟩ (.int .i64 0)).setCell ⟨w.heap.size + 1, 2, none⟩ (.int .i64 0)).setCell ⟨w.heap.size + 1, 3, none⟩ (.slice none 0 0)).setCell ⟨w.heap.size + 1, 4, none⟩ (.slice none 0 0)).cell? ⟨w.heap.size + 1, 2, none⟩ = some (.int .i64 0) := AF.cell 2
    have y3 : (((((w1.setCell ⟨w.heap.size + 1, 0, none⟩ (.string ⟨#[]⟩)).setCell ⟨w.heap.size + 1, 1, none⟩ (.int .i64 0)).setCell ⟨w.heap.size + 1, 2, none⟩ (.int .i64 0)).setCell ⟨w.heap.size + 1, 3, none⟩ (.slice none 0 0)).setCell ⟨w.heap.size + 1, 4, none⟩ (.slice none 0 0)).cell? ⟨w.heap.size + 1, 3, none⟩ = some (.slice none 0 0) := AF.cell 3
    have y4 : (((((w1.setCell ⟨w.heap.size + 1, 0, none⟩ (.string ⟨#[]⟩)).setCell ⟨w.heap.size + 1, 1, none⟩ (.int .i64 0)).setCell ⟨w.heap.size + 1, 2, none⟩ (.int .i64 0)).setCell ⟨w.heap.size + 1, 3, none⟩ (.slice none 0 0)).setCell ⟨w.heap.size + 1, 4, none⟩ (.slice none 0 0)).cell? ⟨w.heap.size + 1, 4, none⟩ = some (.slice none 0 0) := AF.cell 4
    exact bodyPost_ret (v := .tuple #[.agg #[.string ⟨#[]⟩, .int .i64 0, .int .i64 0, .slice none 0 0, .slice none 0 0], .int .i64 E]) (by simp [results, Tryz.results70, go_sem, y0, y1, y2, y3, y4]) rfl (.inl ⟨by rw [hf.out]; exact Q.out, by rw [hf.out], below_set5 b0 (by omega) _ _ _ _ _⟩)
  obtain ⟨q1, q2, q3⟩ := ruleErr_parts q
  obtain ⟨cy1, cy2⟩ := headErr_cyc q1
  obtain ⟨C, rfl⟩ : ∃ C : Nat, c = (C : Int) := ⟨c.toNat, by omega⟩
  have hf := Lib.hid (show compErr s f (C : Int) (.node k m ks) ms = (compTo (.node k m ks) C).1 from (HO.out.trans (if_neg (by omega))))
  have Q2 := Lib.hid q2
  obtain ⟨ml1, ml2⟩ := monthsErr_len q3
  have hn1 : 1 ≤ n2 := by have := L2.out; omega
  have hn2 : n2 ≤ 20 := by have := L2.out; omega
  rw [q]
  clear q HO q1 q2 q3
  rintro e w1 ⟨rfl, hb⟩
  replace b0 := below_then b0 hb
  replace ar := ar.then_ hb
  replace a0 := a0.then_ hb
  clear hb
  have hl0 := a0.lt; have hl1 := ar.lt
  have d0 := a0.cell 0; have d1 := a0.cell 1; have d2 := a0.cell 2; have d3 := a0.cell 3; have d4 := a0.cell 4; have d5 := a0.cell 5; have d6 := a0.cell 6; simp at d0 d1 d2 d3 d4 d5 d6
  have g0 : (w1.alloc (.cells #[.string ⟨#[]⟩, .int .i64 0, .int .i64 0, .slice none 0 0, .slice none 0 0] 92)).drew.cell? ⟨w.heap.size, 0, none⟩ = some (.string s) := cell_alloc d0
  have e0 : w1.drew.cell? ⟨w.heap.size, 0, none⟩ = some (.string s) := d0
  have g1 : (w1.alloc (.cells #[.string ⟨#[]⟩, .int .i64 0, .int .i64 0, .slice none 0 0, .slice none 0 0] 92)).drew.cell? ⟨w.heap.size, 1, none⟩ = some (.int .i64 f) := cell_alloc d1
  have e1 : w1.drew.cell? ⟨w.heap.size, 1, none⟩ = some (.int .i64 f) := d1
  have g2 : (w1.alloc (.cells #[.string ⟨#[]⟩, .int .i64 0, .int .i64 0, .slice none 0 0, .slice none 0 0] 92)).drew.cell? ⟨w.heap.size, 2, none⟩ = some (.int .i64 (C : Int)) := cell_alloc d2
  have e2 : w1.drew.cell? ⟨w.heap.size, 2, none⟩ = some (.int .i64 (C : Int)) := d2
  have g6 : (w1.alloc (.cells #[.string ⟨#[]⟩, .int .i64 0, .int .i64 0, .slice none 0 0, .slice none 0 0] 92)).drew.cell? ⟨w.heap.size, 6, none⟩ = some (.slice a2 n2 c2) := cell_alloc d6
  have e6 : w1.drew.cell? ⟨w.heap.size, 6, none⟩ = some (.slice a2 n2 c2) := d6
  go_wp2_with fail
  go_cut [5] from 15 to 25 (fun p wx => ∃ (G gb cc : Nat) (cur : Array Value), p = .pointer (some ⟨G, 0, none⟩) ∧ n2 ≤ cc ∧ gb ≠ G ∧ w1.heap.size ≤ gb ∧ w1.heap.size ≤ G ∧ At wx G (.cells #[.string s, .int .i64 f, .int .i64 (C : Int), .slice (some ⟨gb, 0, none⟩) n2 cc, .slice none 0 0] 92) ∧ At wx gb (.cells cur 128) ∧ (∀ w', At w' gb (.cells cur 128) → Months w' w'.heap.size (some ⟨gb, 0, none⟩) n2 ms) ∧ Below w1.heap.size w1 wx)
  case first =>
    go_region_held3 (fun w' => w'.cell? ⟨w.heap.size, 0, none⟩ = some (.string s) ∧ w'.cell? ⟨w.heap.size, 1, none⟩ = some (.int .i64 f) ∧ w'.cell? ⟨w.heap.size, 2, none⟩ = some (.int .i64 (C : Int)) ∧ w'.cell? ⟨w.heap.size, 6, none⟩ = some (.slice a2 n2 c2))
      (first
        | with_reducible exact ⟨d0, d1, d2, d6⟩
        | with_reducible exact ⟨e0, e1, e2, e6⟩
        | with_reducible exact ⟨g0, g1, g2, g6⟩
        | with_reducible exact ⟨cell_alloc e0, cell_alloc e1, cell_alloc e2, cell_alloc e6⟩
        | with_reducible exact ⟨(hb.cell (p := ⟨w.heap.size, 0, none⟩) (by first | (simp only; omega) | (simp; omega))).trans (by first | with_reducible exact e0 | with_reducible exact g0), (hb.cell (p := ⟨w.heap.size, 1, none⟩) (by first | (simp only; omega) | (simp; omega))).trans (by first | with_reducible exact e1 | with_reducible exact g1), (hb.cell (p := ⟨w.heap.size, 2, none⟩) (by first | (simp only; omega) | (simp; omega))).trans (by first | with_reducible exact e2 | with_reducible exact g2), (hb.cell (p := ⟨w.heap.size, 6, none⟩) (by first | (simp only; omega) | (simp; omega))).trans (by first | with_reducible exact e6 | with_reducible exact g6)⟩
        | with_reducible exact ⟨cell_alloc ((hb.cell (p := ⟨w.heap.size, 0, none⟩) (by first | (simp only; omega) | (simp; omega))).trans (by first | with_reducible exact e0 | with_reducible exact g0)), cell_alloc ((hb.cell (p := ⟨w.heap.size, 1, none⟩) (by first | (simp only; omega) | (simp; omega))).trans (by first | with_reducible exact e1 | with_reducible exact g1)), cell_alloc ((hb.cell (p := ⟨w.heap.size, 2, none⟩) (by first | (simp only; omega) | (simp; omega))).trans (by first | with_reducible exact e2 | with_reducible exact g2)), cell_alloc ((hb.cell (p := ⟨w.heap.size, 6, none⟩) (by first | (simp only; omega) | (simp; omega))).trans (by first | with_reducible exact e6 | with_reducible exact g6))⟩
        | with_reducible exact ⟨cell_set5 (by first | (simp only; omega) | (simp; omega)) ((hb.cell (p := ⟨w.heap.size, 0, none⟩) (by first | (simp only; omega) | (simp; omega))).trans (by first | with_reducible exact e0 | with_reducible exact g0)), cell_set5 (by first | (simp only; omega) | (simp; omega)) ((hb.cell (p := ⟨w.heap.size, 1, none⟩) (by first | (simp only; omega) | (simp; omega))).trans (by first | with_reducible exact e1 | with_reducible exact g1)), cell_set5 (by first | (simp only; omega) | (simp; omega)) ((hb.cell (p := ⟨w.heap.size, 2, none⟩) (by first | (simp only; omega) | (simp; omega))).trans (by first | with_reducible exact e2 | with_reducible exact g2)), cell_set5 (by first | (simp only; omega) | (simp; omega)) ((hb.cell (p := ⟨w.heap.size, 6, none⟩) (by first | (simp only; omega) | (simp; omega))).trans (by first | with_reducible exact e6 | with_reducible exact g6))⟩)
      ((go_at_call 85; refine (clone_months _ a2 n2 c2 ms ?_ hn1 hn2).mono ?_; (exact H2.out.far b0 (by first | assumption | exact (Below.refl _ _).drew | exact below_new (Below.refl _ _).drew _ | exact Below.drew (below_new (Below.refl _ _) _) | exact below_new (Below.refl _ _) _)); rintro e w' ⟨aa, cc, rfl, hcc1, hmm, hb⟩; have hbz : w.heap.size < w'.heap.size := Nat.lt_of_lt_of_le (by first | assumption | (simp; omega)) hb.size; (try have hz := (At.new w1 (.cells #[.string ⟨#[]⟩, .int .i64 0, .int .i64 0, .slice none 0 0, .slice none 0 0] 92)).drew.then_ hb); (try have f0 : w'.frozen? ⟨w1.heap.size, 0, none⟩ = false := hz.frozen 0); (try have z0 : w'.cell? ⟨w1.heap.size, 0, none⟩ = some (.string ⟨#[]⟩) := hz.cell 0); (try have f1 : w'.frozen? ⟨w1.heap.size, 1, none⟩ = false := hz.frozen 1); (try have z1 : w'.cell? ⟨w1.heap.size, 1, none⟩ = some (.int .i64 0) := hz.cell 1); (try have f2 : w'.frozen? ⟨w1.heap.size, 2, none⟩ = false := hz.frozen 2); (try have z2 : w'.cell? ⟨w1.heap.size, 2, none⟩ = some (.int .i64 0) := hz.cell 2); (try have f3 : w'.frozen? ⟨w1.heap.size, 3, none⟩ = false := hz.frozen 3); (try have z3 : w'.cell? ⟨w1.heap.size, 3, none⟩ = some (.slice none 0 0) := hz.cell 3); (try have f4 : w'.frozen? ⟨w1.heap.size, 4, none⟩ = false := hz.frozen 4); (try have z4 : w'.cell? ⟨w1.heap.size, 4, none⟩ = some (.slice none 0 0) := hz.cell 4)))
    · obtain ⟨gb, cur, rfl, hgb, hat, hmon⟩ := own_months_at hmm hn1 L2.out H2.out.2
      have hgl := hat.lt
      have r1 := At.new w' (.cells #[.string s, .int .i64 f, .int .i64 (C : Int), .slice (some ⟨gb, 0, none⟩) n2 cc, .slice none 0 0] 92)
      have r2 := hat.alloc (.cells #[.string s, .int .i64 f, .int .i64 (C : Int), .slice (some ⟨gb, 0, none⟩) n2 cc, .slice none 0 0] 92)
      have r3 : Below w1.heap.size w1 (w'.alloc (.cells #[.string s, .int .i64 f, .int .i64 (C : Int), .slice (some ⟨gb, 0, none⟩) n2 cc, .slice none 0 0] 92)) := below_new ((below_drewN (Below.refl w1.heap.size w1) 1).trans hb) (.cells #[.string s, .int .i64 f, .int .i64 (C : Int), .slice (some ⟨gb, 0, none⟩) n2 cc, .slice none 0 0] 92)
      have hs : w1.heap.size ≤ w'.heap.size := hb.size
      go_wp2_with fail
      go_meet
      case rel => exact ⟨w'.heap.size, gb, cc, cur, rfl, hcc1, by omega, hgb, hs, r1, r2, hmon, r3⟩
    · obtain ⟨gb, cur, rfl, hgb, hat, hmon⟩ := own_months_at hmm hn1 L2.out H2.out.2
      have hgl := hat.lt
      have hse : (World.alloc w1 (.cells #[.string ⟨#[]⟩, .int .i64 0, .int .i64 0, .slice none 0 0, .slice none 0 0] 92)).heap.size = w1.heap.size + 1 := by simp only [World.size_alloc]
      have hgb' : w1.heap.size + 1 ≤ gb := by rw [← hse]; exact hgb
      have r1 := hz.store5 (.string s) (.int .i64 f) (.int .i64 (C : Int)) (.slice (some ⟨gb, 0, none⟩) n2 cc) (.slice none 0 0)
      have r2 := hat.apart5 (p := w1.heap.size) (by omega) (.string s) (.int .i64 f) (.int .i64 (C : Int)) (.slice (some ⟨gb, 0, none⟩) n2 cc) (.slice none 0 0)
      have r3 := below_set5 (((below_new (Below.refl w1.heap.size w1) (.cells #[.string ⟨#[]⟩, .int .i64 0, .int .i64 0, .slice none 0 0, .slice none 0 0] 92)).drew).trans (hb.mono (Nat.le_trans (Nat.le_succ _) (Nat.le_of_eq hse.symm)))) (show w1.heap.size ≤ w1.heap.size by omega) (.string s) (.int .i64 f) (.int .i64 (C : Int)) (.slice (some ⟨gb, 0, none⟩) n2 cc) (.slice none 0 0)
      go_wp2_with fail
      go_meet
      case rel => exact ⟨w1.heap.size, gb, cc, cur, rfl, hcc1, by omega, by omega, by omega, r1, r2, hmon, r3⟩
  case rest =>
  obtain ⟨G, gb, cc, cur, rfl, hcc, hne, hgbw, hGw, ac, am, hmon, bc⟩ := hcut
  have HMON := Lib.hid hmon
  have A0 := Lib.hid (a0.then_ bc); have AR := Lib.hid (ar.then_ bc); have B0 := Lib.hid (below_then b0 bc); have AM := Lib.hid am
  have hGl := ac.lt
  have hml := am.lt
  clear a0 ar b0 hmon am bc d0 d1 d2 d3 d4 d5 d6 e0 e1 e2 e6 g0 g1 g2 g6
  obtain ⟨W1, rfl⟩ : ∃ W1, W1 = wc := ⟨_, rfl⟩
  go_wp2_with fail
  go_loopw [6, 7, 8] (fun vy _ _ wr => ∃ (j : Nat) (zs : List Int) (v : Value), j ≤ C ∧ vy = .int .i64 ((j : Int) + 1) ∧ compTo (.node k m ks) j = (0, zs) ∧ wr.ownsRow W1.heap.size 3 1 v zs.length (zs.map (Value.int .i64)) ∧ zs.length ≤ j ∧ At wr G (.cells #[.string s, .int .i64 f, .int .i64 (C : Int), .slice (some ⟨gb, 0, none⟩) n2 cc, v] 92) ∧ OneKept G W1 wr) (fun vy _ _ _ => C + 1 - (intOf vy).toNat)
  case atStart => exact ⟨0, [], .slice none 0 0, by omega, rfl, rfl, World.ownsRow_nil _ _ _ _, by simp, ac, OneKept.refl _ _⟩
  case round =>
    clear ac
    obtain ⟨j, zs, v, hj, rfl, hct, hown, hzl, ac, bw⟩ := hrel
    have HCT := Lib.hid hct; have OWN := Lib.hid hown; clear hct hown
    have a0 := A0.out.oneKept bw (by omega)
    have ar := AR.out.oneKept bw (by omega)
    have b0 := bw.below_own B0.out (by omega)
    have hbs := bw.size
    have hgl := ac.lt
    have d0 := a0.cell 0; have d1 := a0.cell 1; have d2 := a0.cell 2; have d3 := a0.cell 3; have d4 := a0.cell 4; have d5 := a0.cell 5; have d6 := a0.cell 6; simp at d0 d1 d2 d3 d4 d5 d6
    by_cases hlt : j < C
    · have hev := rule_Eval wr k m ks a1 n1 c1 ((j : Int) + 1) (H1.out.then_ b0) k1 m1
      rw [show evalOut (.node k m ks) ((j : Int) + 1) = evalGo (.node k m ks) ((j : Int) + 1) from (if_neg (by rw [Q2.out]; omega)).trans (if_neg (by rw [inB_yes (by omega) (by omega)]; simp))] at hev
      unfold EvalPost at hev
      obtain ⟨r, hr⟩ : ∃ r, r = evalGo (.node k m ks) ((j : Int) + 1) := ⟨_, rfl⟩
      rw [← hr] at hev
      have HR := Lib.hid hr; clear hr
      obtain ⟨v1, ev⟩ := r
      simp only at hev
      have HEV := Lib.hid hev; clear hev
      have AR1 := Lib.hid ar; have B1 := Lib.hid b0; have AC := Lib.hid ac
      clear ar b0 ac a0
      by_cases hz : ev = 0
      case neg =>
        have hz' : (ev != 0) = true := by simpa using hz
        have Q := Lib.hid hz
        have hct := compTo_err HCT.out (by rw [← HR.out]) hz
        have hF := Lib.hid (show compErr s f (C : Int) (.node k m ks) ms = ev by rw [hf.out, compTo_stop (.node k m ks) (j + 1) (by rw [hct]; exact hz) C (by omega), hct])
        clear hz hct
        go_wp2_with fail
        refine HEV.out.mono ?_
        rintro e w2 ⟨rfl, hb⟩
        have ar := AR1.out.then_ hb
        have b0 := below_then B1.out hb
        clear hb d0 d1 d2 d3 d4 d5 d6
        have f0 : w2.frozen? ⟨w.heap.size + 1, 0, none⟩ = false := ar.frozen 0
        have f1 : w2.frozen? ⟨w.heap.size + 1, 1, none⟩ = false := ar.frozen 1
        have f2 : w2.frozen? ⟨w.heap.size + 1, 2, none⟩ = false := ar.frozen 2
        have f3 : w2.frozen? ⟨w.heap.size + 1, 3, none⟩ = false := ar.frozen 3
        have f4 : w2.frozen? ⟨w.heap.size + 1, 4, none⟩ = false := ar.frozen 4
        have z0 : w2.cell? ⟨w.heap.size + 1, 0, none⟩ = some (.string ⟨#[]⟩) := ar.cell 0
        have z1 : w2.cell? ⟨w.heap.size + 1, 1, none⟩ = some (.int .i64 0) := ar.cell 1
        have z2 : w2.cell? ⟨w.heap.size + 1, 2, none⟩ = some (.int .i64 0) := ar.cell 2
        have z3 : w2.cell? ⟨w.heap.size + 1, 3, none⟩ = some (.slice none 0 0) := ar.cell 3
        have z4 : w2.cell? ⟨w.heap.size + 1, 4, none⟩ = some (.slice none 0 0) := ar.cell 4
        have AR := Lib.hid ar; clear ar
        go_wp2_with fail
        have AF := AR.out.store5 (.string ⟨#[]⟩) (.int .i64 0) (.int .i64 0) (.slice none 0 0) (.slice none 0 0)
        have y0 : (((((w2.setCell ⟨w.heap.size + 1, 0, none⟩ (.string ⟨#[]⟩)).setCell ⟨w.heap.size + 1, 1, none⟩ (.int .i64 0)).setCell ⟨w.heap.size + 1, 2, none⟩ (.int .i64 0)).setCell ⟨w.heap.size + 1, 3, none⟩ (.slice none 0 0)).setCell ⟨w.heap.size + 1, 4, none⟩ (.slice none 0 0)).cell? ⟨w.heap.size + 1, 0, none⟩ = some (.string ⟨#[]⟩) := AF.cell 0
        have y1 : (((((w2.setCell ⟨w.heap.size + 1, 0, none⟩ (.string ⟨#[]⟩)).setCell ⟨w.heap.size + 1, 1, none⟩ (.int .i64 0)).setCell ⟨w.heap.size + 1, 2, none⟩ (.int .i64 0)).setCell ⟨w.heap.size + 1, 3, none⟩ (.slice none 0 0)).setCell ⟨w.heap.size + 1, 4, none⟩ (.slice none 0 0)).cell? ⟨w.heap.size + 1, 1, none⟩ = some (.int .i64 0) := AF.cell 1
        have y2 : (((((w2.setCell ⟨w.heap.size + 1, 0, none⟩ (.string ⟨#[]⟩)).setCell ⟨w.heap.size + 1, 1, none⟩ (.int .i64 0)).setCell ⟨w.heap.size + 1, 2, none⟩ (.int .i64 0)).setCell ⟨w.heap.size + 1, 3, none⟩ (.slice none 0 0)).setCell ⟨w.heap.size + 1, 4, none⟩ (.slice none 0 0)).cell? ⟨w.heap.size + 1, 2, none⟩ = some (.int .i64 0) := AF.cell 2
        have y3 : (((((w2.setCell ⟨w.heap.size + 1, 0, none⟩ (.string ⟨#[]⟩)).setCell ⟨w.heap.size + 1, 1, none⟩ (.int .i64 0)).setCell ⟨w.heap.size + 1, 2, none⟩ (.int .i64 0)).setCell ⟨w.heap.size + 1, 3, none⟩ (.slice none 0 0)).setCell ⟨w.heap.size + 1, 4, none⟩ (.slice none 0 0)).cell? ⟨w.heap.size + 1, 3, none⟩ = some (.slice none 0 0) := AF.cell 3
        have y4 : (((((w2.setCell ⟨w.heap.size + 1, 0, none⟩ (.string ⟨#[]⟩)).setCell ⟨w.heap.size + 1, 1, none⟩ (.int .i64 0)).setCell ⟨w.heap.size + 1, 2, none⟩ (.int .i64 0)).setCell ⟨w.heap.size + 1, 3, none⟩ (.slice none 0 0)).setCell ⟨w.heap.size + 1, 4, none⟩ (.slice none 0 0)).cell? ⟨w.heap.size + 1, 4, none⟩ = some (.slice none 0 0) := AF.cell 4
        exact bodyPost_ret (v := .tuple #[.agg #[.string ⟨#[]⟩, .int .i64 0, .int .i64 0, .slice none 0 0, .slice none 0 0], .int .i64 ev]) (by simp [results, Tryz.results70, go_sem, y0, y1, y2, y3, y4]) rfl (.inl ⟨by rw [hF.out]; exact Q.out, by rw [hF.out], below_set5 b0 (by omega) _ _ _ _ _⟩)
      subst hz
      by_cases hv : v1 = 0
      · have hv' : (v1 != 0) = false := by simpa using hv
        have HN := Lib.hid (compTo_no HCT.out (by rw [← HR.out]) (by rw [← HR.out]; exact hv))
        clear hv
        go_wp2_with fail
        refine HEV.out.mono ?_
        rintro e w2 ⟨rfl, hb⟩
        go_wp2_with fail
        go_roundw
        case rel => exact ⟨j + 1, zs, v, by omega, by go_num, HN.out, own_thenC OWN.out hb, by omega, AC.out.then_ hb, bw.then_ hb⟩
        case measure => first | (simp [intOf]; done) | (simp [intOf]; omega)
      · have hv' : (v1 != 0) = true := by simpa using hv
        have HN := Lib.hid (compTo_yes HCT.out (by rw [← HR.out]) (by rw [← HR.out]; exact hv))
        clear hv
        go_wp2_with fail
        refine HEV.out.mono ?_
        rintro e w2 ⟨rfl, hb⟩
        have ac2 := AC.out.then_ hb
        have bw2 := bw.then_ hb
        have OWN2 := Lib.hid (own_thenC OWN.out hb)
        have hg2 := ac2.lt
        have hbs2 := bw2.size
        have x4 : w2.cell? ⟨G, 4, none⟩ = some v := ac2.cell 4
        have AC2 := Lib.hid ac2; have BW2 := Lib.hid bw2
        clear hb d0 d1 d2 d3 d4 d5 d6 ac2 bw2 bw
        generalize hT : (j : Int) + 1 = T at *
        have HT := Lib.hid hT
        obtain ⟨T1, T2⟩ : 1 ≤ T ∧ T ≤ 3000 := by omega
        clear hT
        go_wp2_with (at_builtin; refine wpList_append_own _ rfl _ _ 90 rfl W1.heap.size 3 i0 (.int .i64 0) 1 8 Tryz.underlying90 hi hz0 hz1 hz2 rfl (by decide) _ _ _ rfl (OWN2.out.alloc _) ⟨w2.heap.size, 0, none⟩ 1 1 [.int .i64 T] rfl rfl ?c1 ?c2 ?c3 ?c4 ?c5 ?_)
        case c1 =>
          intro i u hj
          match i, hj with
          | 0, hj => simp at hj; subst hj; simp [Addr.add]
        case c2 => intro u hu; simp at hu; subst hu; rfl
        case c3 => unfold maxLen; omega
        case c4 => omega
        case c5 => simp; omega
        intro v' w4 hown' hgrow _
        obtain ⟨gg, cap, hv, hg4, hl4⟩ := hown'.form (by omega)
        subst hv
        have ac4 := (AC2.out.alloc (.cells #[.int .i64 T] 3)).grownC hgrow (own_nearC OWN2.out (by omega))
        have bw4 : OneKept G W1 w4 := (BW2.out.alloc (.cells #[.int .i64 T] 3)).grown hgrow (fun b hb => by
          rcases Nat.lt_or_ge b W1.heap.size with h | h
          · exact absurd hb.symm (own_nearC OWN2.out h)
          · exact h)
        have y4 : w4.cell? ⟨G, 4, none⟩ = some v := ac4.cell 4
        have y5 : w4.frozen? ⟨G, 4, none⟩ = false := ac4.frozen 4
        have OWN4 := Lib.hid hown'; have AC4 := Lib.hid ac4
        clear hown' hgrow ac4
        go_wp2_with fail
        go_roundw
        case rel =>
          refine ⟨j + 1, zs ++ [T], .slice (some ⟨gg, 0, none⟩) (zs.length + 1) cap, by omega, by have h1 := HT.out; rw [show T + 1 = ((j + 1 : Nat) : Int) + 1 by omega], HN.out, ?_, by simp; omega, AC4.out.store 4 _, bw4.set 4 _⟩
          rw [List.length_append, List.map_append]
          exact own_setC OWN4.out (by simp only; omega) _
        case measure => first | (simp [intOf]; done) | (simp [intOf]; omega) | (have h1 := HT.out; have h2 := hlt; simp only [intOf]; omega)
    · obtain rfl : j = C := by omega
      have HF := Lib.hid (show compErr s f (j : Int) (.node k m ks) ms = 0 by rw [hf.out, HCT.out])
      obtain ⟨aa, ca, rfl, hc1, hc2, _⟩ := own_ints OWN.out (fun z hz => by have := compTo_mem (t := .node k m ks) j z (by rw [HCT.out]; exact hz); unfold I64; omega) rfl
      have HI0 := Lib.hid (show ∀ z ∈ zs, I64 z from fun z hz => by have := compTo_mem (t := .node k m ks) j z (by rw [HCT.out]; exact hz); unfold I64; omega)
      have AMf := AM.out.oneKept bw hne
      have g0 := ac.cell 0; have g1 := ac.cell 1; have g2 := ac.cell 2; have g3 := ac.cell 3; have g4 := ac.cell 4; simp at g0 g1 g2 g3 g4
      have f0 : wr.frozen? ⟨w.heap.size + 1, 0, none⟩ = false := ar.frozen 0
      have f1 : wr.frozen? ⟨w.heap.size + 1, 1, none⟩ = false := ar.frozen 1
      have f2 : wr.frozen? ⟨w.heap.size + 1, 2, none⟩ = false := ar.frozen 2
      have f3 : wr.frozen? ⟨w.heap.size + 1, 3, none⟩ = false := ar.frozen 3
      have f4 : wr.frozen? ⟨w.heap.size + 1, 4, none⟩ = false := ar.frozen 4
      have z0 : wr.cell? ⟨w.heap.size + 1, 0, none⟩ = some (.string ⟨#[]⟩) := ar.cell 0
      have z1 : wr.cell? ⟨w.heap.size + 1, 1, none⟩ = some (.int .i64 0) := ar.cell 1
      have z2 : wr.cell? ⟨w.heap.size + 1, 2, none⟩ = some (.int .i64 0) := ar.cell 2
      have z3 : wr.cell? ⟨w.heap.size + 1, 3, none⟩ = some (.slice none 0 0) := ar.cell 3
      have z4 : wr.cell? ⟨w.heap.size + 1, 4, none⟩ = some (.slice none 0 0) := ar.cell 4
      have AR := Lib.hid ar; clear ar
      go_wp2_with fail
      have AF := AR.out.store5 (.string s) (.int .i64 f) (.int .i64 (j : Int)) (.slice (some ⟨gb, 0, none⟩) n2 cc) (.slice aa zs.length ca)
      have y0 : (((((wr.setCell ⟨w.heap.size + 1, 0, none⟩ (.string s)).setCell ⟨w.heap.size + 1, 1, none⟩ (.int .i64 f)).setCell ⟨w.heap.size + 1, 2, none⟩ (.int .i64 (j : Int))).setCell ⟨w.heap.size + 1, 3, none⟩ (.slice (some ⟨gb, 0, none⟩) n2 cc)).setCell ⟨w.heap.size + 1, 4, none⟩ (.slice aa zs.length ca)).cell? ⟨w.heap.size + 1, 0, none⟩ = some (.string s) := AF.cell 0
      have y1 : (((((wr.setCell ⟨w.heap.size + 1, 0, none⟩ (.string s)).setCell ⟨w.heap.size + 1, 1, none⟩ (.int .i64 f)).setCell ⟨w.heap.size + 1, 2, none⟩ (.int .i64 (j : Int))).setCell ⟨w.heap.size + 1, 3, none⟩ (.slice (some ⟨gb, 0, none⟩) n2 cc)).setCell ⟨w.heap.size + 1, 4, none⟩ (.slice aa zs.length ca)).cell? ⟨w.heap.size + 1, 1, none⟩ = some (.int .i64 f) := AF.cell 1
      have y2 : (((((wr.setCell ⟨w.heap.size + 1, 0, none⟩ (.string s)).setCell ⟨w.heap.size + 1, 1, none⟩ (.int .i64 f)).setCell ⟨w.heap.size + 1, 2, none⟩ (.int .i64 (j : Int))).setCell ⟨w.heap.size + 1, 3, none⟩ (.slice (some ⟨gb, 0, none⟩) n2 cc)).setCell ⟨w.heap.size + 1, 4, none⟩ (.slice aa zs.length ca)).cell? ⟨w.heap.size + 1, 2, none⟩ = some (.int .i64 (j : Int)) := AF.cell 2
      have y3 : (((((wr.setCell ⟨w.heap.size + 1, 0, none⟩ (.string s)).setCell ⟨w.heap.size + 1, 1, none⟩ (.int .i64 f)).setCell ⟨w.heap.size + 1, 2, none⟩ (.int .i64 (j : Int))).setCell ⟨w.heap.size + 1, 3, none⟩ (.slice (some ⟨gb, 0, none⟩) n2 cc)).setCell ⟨w.heap.size + 1, 4, none⟩ (.slice aa zs.length ca)).cell? ⟨w.heap.size + 1, 3, none⟩ = some (.slice (some ⟨gb, 0, none⟩) n2 cc) := AF.cell 3
      have y4 : (((((wr.setCell ⟨w.heap.size + 1, 0, none⟩ (.string s)).setCell ⟨w.heap.size + 1, 1, none⟩ (.int .i64 f)).setCell ⟨w.heap.size + 1, 2, none⟩ (.int .i64 (j : Int))).setCell ⟨w.heap.size + 1, 3, none⟩ (.slice (some ⟨gb, 0, none⟩) n2 cc)).setCell ⟨w.heap.size + 1, 4, none⟩ (.slice aa zs.length ca)).cell? ⟨w.heap.size + 1, 4, none⟩ = some (.slice aa zs.length ca) := AF.cell 4
      have bf := below_set5 b0 (show w.heap.size ≤ w.heap.size + 1 by omega) (.string s) (.int .i64 f) (.int .i64 (j : Int)) (.slice (some ⟨gb, 0, none⟩) n2 cc) (.slice aa zs.length ca)
      have ownf := own_setC (own_setC (own_setC (own_setC (own_setC OWN.out (p := ⟨w.heap.size + 1, 0, none⟩) (by simp; omega) (.string s)) (p := ⟨w.heap.size + 1, 1, none⟩) (by simp; omega) (.int .i64 f)) (p := ⟨w.heap.size + 1, 2, none⟩) (by simp; omega) (.int .i64 (j : Int))) (p := ⟨w.heap.size + 1, 3, none⟩) (by simp; omega) (.slice (some ⟨gb, 0, none⟩) n2 cc)) (p := ⟨w.heap.size + 1, 4, none⟩) (by simp; omega) (.slice aa zs.length ca)
      obtain ⟨ab, cb, hve, hq1, hq2, hI⟩ := own_ints ownf HI0.out rfl
      injection hve with hv1 _ hv3
      subst hv1 hv3
      exact bodyPost_ret (v := .tuple #[.agg #[.string s, .int .i64 f, .int .i64 (j : Int), .slice (some ⟨gb, 0, none⟩) n2 cc, .slice aa zs.length ca], .int .i64 0]) (by simp [results, Tryz.results70, go_sem, y0, y1, y2, y3, y4]) rfl (.inr ⟨HF.out, some ⟨gb, 0, none⟩, n2, cc, aa, zs.length, ca, rfl, hcc, hq1, HMON.out _ (AMf.apart5 (p := w.heap.size + 1) (by omega) _ _ _ _ _), by rw [show ((j : Int)).toNat = j by omega, HCT.out]; exact hI, bf⟩)
end Go.Proofs.YtdmkghgachapaabGreatDoor
