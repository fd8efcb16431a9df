/- Contract of compile.Least. -/
import Derived.Test.YtjpbkkoflaajcaaLeast0
import Derived.Test.YtjpbkkoflaajcaaComp0
import Derived.Test.YtjpbkkoflaajcaaKept
import Derived.Test.YtjpbkkoflaajcaaCalOpen
import Derived.Deep.RegionHeld3
import Derived.Deep.Cut
import Derived.Deep.CutRange
namespace Go.Proofs.Ytjpbkkoflaajcaa
set_option linter.unusedVariables false
set_option maxRecDepth 100000
open Go.RowKit

theorem Try.infoIntL : (Try.prog.info? 3).map (fun i => (i.zero, i.size, i.bytes)) = some (some (.int .i64 0), 1, 8) := by kernel_rfl
theorem cell_allocL {w : World} {o : Obj} {p : Addr} {v : Value} (h : w.cell? p = some v) : (w.alloc o).cell? p = some v := by
  rcases Nat.lt_or_ge p.block w.heap.size with hp | hp
  · exact ((below_new (Below.refl w.heap.size w) o).cell hp).trans h
  · simp [World.cell?, Array.getElem?_eq_none hp] at h
theorem cell_heapL {w w' : World} {p : Addr} {v : Value} (h : w'.heap[p.block]? = w.heap[p.block]?) (hv : w.cell? p = some v) : w'.cell? p = some v := by
  rw [← hv]; simp [World.cell?, h]
theorem cell_set5L {w : World} {G : Nat} {p : Addr} {v u0 u1 u2 u3 u4 : Value} (hne : p.block ≠ G) (hv : w.cell? p = some v) :
    (((((w.setCell ⟨G, 0, none⟩ u0).setCell ⟨G, 1, none⟩ u1).setCell ⟨G, 2, none⟩ u2).setCell ⟨G, 3, none⟩ u3).setCell ⟨G, 4, none⟩ u4).cell? p = some v := by
  have k : ∀ (w : World) (i : Nat) (u : Value), w.cell? p = some v → (w.setCell ⟨G, i, none⟩ u).cell? p = some v := fun w i u h => cell_heapL (Below.heap_setCell w ⟨G, i, none⟩ u p.block hne) h
  exact k _ _ _ (k _ _ _ (k _ _ _ (k _ _ _ (k _ _ _ hv))))
/-- Months in a block of the call's own, wherever that block stands unchanged. -/
theorem own_months_atL {w : World} {base : Nat} {a : Option Addr} {n c : Nat} {ms : List Mon} (h : w.ownsRow base 58 3 (.slice a n c) n (ms.flatMap encM)) (h1 : 1 ≤ n) (hn : ms.length = n) (hok : ∀ x ∈ ms, okM x) :
    ∃ g cur, a = some ⟨g, 0, none⟩ ∧ base ≤ g ∧ At w g (.cells cur 58) ∧ ∀ w', At w' g (.cells cur 58) → Months w' w'.heap.size (some ⟨g, 0, none⟩) n ms := by
  rcases h.2 with ⟨_, h0⟩ | ⟨g, cap, cur, he, hb, hcur, hnc, hcm, hcs, htake⟩
  · omega
  · injection he with he1 he2 he3
    subst he1 he3
    refine ⟨g, cur, rfl, hb, hcur, fun w' hat => ?_⟩
    obtain ⟨a', c', he', _, _, hm⟩ := own_months (w := w') (base := base) (v := .slice (some ⟨g, 0, none⟩) n c) (ms := ms) ⟨h.1, .inr ⟨g, c, cur, rfl, hb, hat, hnc, hcm, hcs, htake⟩⟩ hn hok
    injection he' with q1 q2 q3
    subst q1
    exact hm
theorem OneKept.grownL {b : Nat} {w w1 w2 : World} {row : Option Nat} (h : OneKept b w w1) (g : w1.grownBy w2 row) (hr : ∀ k, row = some k → w.heap.size ≤ k) : OneKept b w w2 :=
  ⟨g.os.trans h.os, g.tape.trans h.tape, g.output.trans h.output, Nat.le_trans h.size g.size, fun k hk hb => (g.block k (Nat.lt_of_lt_of_le hk h.size) (fun e => by have := hr k e.symm; omega)).trans (h.block k hk hb)⟩
theorem own_nearL {w : World} {base : Nat} {e : TypeId} {size : Nat} {v : Value} {n : Nat} {xs : List Value} (h : w.ownsRow base e size v n xs) {b : Nat} (hb : b < base) : some b ≠ v.ownBlock := by
  rcases h.2 with ⟨rfl, _⟩ | ⟨g, cap, cur, rfl, hg, _⟩
  · simp [Value.ownBlock]
  · simp [Value.ownBlock]; omega
theorem own_setL {w : World} {base : Nat} {e : TypeId} {size : Nat} {v : Value} {n : Nat} {xs : List Value} (h : w.ownsRow base e size v n xs) {p : Addr} (hp : p.block < base) (u : Value) : (w.setCell p u).ownsRow base e size v n xs := by
  refine ⟨h.1, ?_⟩
  rcases h.2 with h0 | ⟨g, cap, cur, hv, hg, hat, rest⟩
  · exact .inl h0
  · exact .inr ⟨g, cap, cur, hv, hg, (Below.heap_setCell w p u g (by omega)).trans hat, rest⟩
theorem At.grownL {w w' : World} {b : Nat} {o : Obj} {row : Option Nat} (h : At w b o) (hg : w.grownBy w' row) (hne : some b ≠ row) : At w' b o := (hg.block b h.lt hne).trans h
theorem filt_yes {ls : List Int} {N y : Int} {q : Nat} (hx : ls[q]? = some y) (h : y ≤ N) : (ls.take (q + 1)).filter (fun y => decide (y ≤ N)) = (ls.take q).filter (fun y => decide (y ≤ N)) ++ [y] := by
  rw [take_one hx, List.filter_append]; simp [h]
theorem filt_no {ls : List Int} {N y : Int} {q : Nat} (hx : ls[q]? = some y) (h : ¬ y ≤ N) : (ls.take (q + 1)).filter (fun y => decide (y ≤ N)) = (ls.take q).filter (fun y => decide (y ≤ N)) := by
  rw [take_one hx, List.filter_append]; simp [h]
theorem filt_len (ls : List Int) (N : Int) (q : Nat) : ((ls.take q).filter (fun y => decide (y ≤ N))).length ≤ q :=
  Nat.le_trans (List.length_filter_le _ _) (by rw [List.length_take]; omega)
theorem cut_loB (b len cap i : Nat) (x : Int) (hx : x = (i : Int)) (h : i ≤ len) (hc : len ≤ cap) : ∃ dp : Option Addr, (i < len → dp = some ⟨b, i, none⟩) ∧ (∀ W, (Instr.sliceAt 40 (.slice (some ⟨b, 0, none⟩) len cap) (some (.int .i64 x)) none none).run Try.prog W = .ok (.slice dp (len - i) (cap - i)) W) ∧ (∀ W, (Instr.slice 40 (.slice (some ⟨b, 0, none⟩) len cap) (some (.int .i64 x)) none none).run Try.prog W = .ok (.slice dp (len - i) (cap - i)) W) := by
  subst hx
  have hk : ∀ W, (Instr.slice 40 (.slice (some ⟨b, 0, none⟩) len cap) (some (.int .i64 (i : Int))) none none).run Try.prog W = .ok (.slice (if cap = i then some ⟨b, 0, none⟩ else some ⟨b, i, none⟩) (len - i) (cap - i)) W := by
    intro W
    rw [run_slice_l W 40 (some ⟨b, 0, none⟩) len cap (by kernel_rfl) .i64 i (by omega) (by omega)]
    have hsz : (sizeOf (Try.prog.elem 40)).run Try.prog W = .ok 1 W := by kernel_rfl
    rw [hsz]
    by_cases h0 : i = 0
    · simp [sliced, Result.andThen, Addr.add, h0]
    · simp [sliced, Result.andThen, Addr.add, h0]
  refine ⟨if cap = i then some ⟨b, 0, none⟩ else some ⟨b, i, none⟩, fun hl => if_neg (by omega), fun W => ?_, hk⟩
  rw [run_sliceAt_slice W 40 _ _ _ _ (by kernel_rfl)]
  exact hk W
theorem cut_hiB (b len cap i : Nat) (x : Int) (hx : x = (i : Int)) (h : i ≤ cap) : (∀ W, (Instr.sliceAt 40 (.slice (some ⟨b, 0, none⟩) len cap) none (some (.int .i64 x)) none).run Try.prog W = .ok (.slice (some ⟨b, 0, none⟩) i cap) W) ∧ (∀ W, (Instr.slice 40 (.slice (some ⟨b, 0, none⟩) len cap) none (some (.int .i64 x)) none).run Try.prog W = .ok (.slice (some ⟨b, 0, none⟩) i cap) W) := by
  subst hx
  have hk : ∀ W, (Instr.slice 40 (.slice (some ⟨b, 0, none⟩) len cap) none (some (.int .i64 (i : Int))) none).run Try.prog W = .ok (.slice (some ⟨b, 0, none⟩) i cap) W := by
    intro W
    rw [run_slice_h W 40 (some ⟨b, 0, none⟩) len cap (by kernel_rfl) .i64 i (by omega) (by omega)]
    have hsz : (sizeOf (Try.prog.elem 40)).run Try.prog W = .ok 1 W := by kernel_rfl
    rw [hsz]
    simp [sliced, Result.andThen, Addr.add]
  refine ⟨fun W => ?_, hk⟩
  rw [run_sliceAt_slice W 40 _ _ _ _ (by kernel_rfl)]
  exact hk W
theorem rem_nat (C k : Nat) : (C : Int).tmod ((k : Int) + 1) = ((C % (k + 1) : Nat) : Int) ∧ (C : Int) % ((k : Int) + 1) = ((C % (k + 1) : Nat) : Int) := by
  constructor
  · rw [show ((k : Int) + 1) = ((k + 1 : Nat) : Int) by omega]; exact (Int.ofNat_tmod C (k + 1)).symm
  · rw [show ((k : Int) + 1) = ((k + 1 : Nat) : Int) by omega]; exact (Int.natCast_emod C (k + 1)).symm
def LeastPost (s : ByteArray) (f c : Int) (a1 a2 : Option Addr) (n1 c1 n2 c2 : Nat) (ms : List Mon) (ls : List Int) (w : World) (e : Ending) (w' : World) : Prop :=
  (calErr s f c ms ls ≠ 0 ∧ e = .returned (.tuple #[.agg #[.string ⟨#[]⟩, .int .i64 0, .int .i64 0, .slice none 0 0, .slice none 0 0], .int .i64 (calErr s f c ms ls)]) ∧ Below w.heap.size w w') ∨
  (calErr s f c ms ls = 0 ∧ ∃ k : Nat, (k : Int) + 1 ≤ c ∧ perB c.toNat ls (k + 1) = true ∧ (∀ m, 1 ≤ m → m < k + 1 → perB c.toNat ls m = false) ∧ ∃ p1 q1 r1 p2 q2 r2, e = .returned (.tuple #[.agg #[.string s, .int .i64 f, .int .i64 ((k : Int) + 1), .slice p1 q1 r1, .slice p2 q2 r2], .int .i64 0]) ∧ Months w' w'.heap.size p1 q1 ms ∧ Ints w' w'.heap.size p2 q2 (ls.filter fun y => decide (y ≤ (k : Int) + 1)) ∧ Below w.heap.size w w')
set_option maxHeartbeats 8000000 in
theorem compile_Least (w : World) (s : ByteArray) (f c : Int) (a1 a2 : Option Addr) (n1 c1 n2 c2 : Nat) (ms : List Mon) (ls : List Int) (hs : s.size ≤ 9223372036854775807) (k1 : n1 ≤ c1) (h1 : Months w w.heap.size a1 n1 ms) (h2 : Ints w w.heap.size a2 n2 ls) :
    Calls Try.prog 11 #[.agg #[.string s, .int .i64 f, .int .i64 c, .slice a1 n1 c1, .slice a2 n2 c2]] w (LeastPost s f c a1 a2 n1 c1 n2 c2 ms ls w) := by
  obtain ⟨i0, hi, hz0, hz1, hz2⟩ := info_parts Try.infoIntL
  have L1 := Lib.hid h1.len; have L2 := Lib.hid h2.len
  have H1 := Lib.hid h1; have H2 := Lib.hid h2; clear h1 h2
  obtain ⟨EE, hEE⟩ : ∃ E, E = calErr s f c ms ls := ⟨_, rfl⟩
  have HO := Lib.hid hEE
  go_enter Try.func11, Try.ntmps11
  go_wp2_with fail
  have a0 := (At.new w (.cells #[.string s, .int .i64 f, .int .i64 c, .slice a1 n1 c1, .slice a2 n2 c2] 30)).alloc (.cells #[.string ⟨#[]⟩, .int .i64 0, .int .i64 0, .slice none 0 0, .slice none 0 0] 30)
  have ar := At.new1 w (.cells #[.string s, .int .i64 f, .int .i64 c, .slice a1 n1 c1, .slice a2 n2 c2] 30) (.cells #[.string ⟨#[]⟩, .int .i64 0, .int .i64 0, .slice none 0 0, .slice none 0 0] 30)
  have b0 : Below w.heap.size w ((w.alloc (.cells #[.string s, .int .i64 f, .int .i64 c, .slice a1 n1 c1, .slice a2 n2 c2] 30)).alloc (.cells #[.string ⟨#[]⟩, .int .i64 0, .int .i64 0, .slice none 0 0, .slice none 0 0] 30)) := by (repeat' (first | exact Below.refl _ _ | assumption | refine Below.drew ?_ | refine below_drewN ?_ _ | refine below_new ?_ _ | refine below_set ?_ ?_ _ | refine below_then ?_ (by assumption) | refine below_drawn ?_ (by assumption) | exact Nat.le_refl _ | omega | (simp; done) | (simp; omega)))
  generalize World.alloc (World.alloc w _) _ = W0 at a0 ar b0 ⊢
  refine (compile_Check _ s f c a1 a2 n1 c1 n2 c2 ms ls hs k1 (H1.out.far (Below.refl _ _) b0) ((H2.out.below b0 (Nat.le_refl _)).more b0.size)).mono ?_
  rw [← hEE]
  clear hEE
  by_cases q : EE = 0
  case neg =>
    have q' : (EE != 0) = true := by simpa using q
    have Q := Lib.hid q
    rintro e w1 ⟨rfl, hb⟩
    clear q
    replace b0 := below_then b0 hb
    replace ar := ar.then_ hb
    clear hb a0
    have f0 : w1.frozen? ⟨w.heap.size + 1, 0, none⟩ = false := ar.frozen 0
    have f1 : w1.frozen? ⟨w.heap.size + 1, 1, none⟩ = false := ar.frozen 1
    have f2 : w1.frozen? ⟨w.heap.size + 1, 2, none⟩ = false := ar.frozen 2
    have f3 : w1.frozen? ⟨w.heap.size + 1, 3, none⟩ = false := ar.frozen 3
    have f4 : w1.frozen? ⟨w.heap.size + 1, 4, none⟩ = false := ar.frozen 4
    have z0 : w1.cell? ⟨w.heap.size + 1, 0, none⟩ = some (.string ⟨#[]⟩) := ar.cell 0
    have z1 : w1.cell? ⟨w.heap.size + 1, 1, none⟩ = some (.int .i64 0) := ar.cell 1
    have z2 : w1.cell? ⟨w.heap.size + 1, 2, none⟩ = some (.int .i64 0) := ar.cell 2
    have z3 : w1.cell? ⟨w.heap.size + 1, 3, none⟩ = some (.slice none 0 0) := ar.cell 3
    have z4 : w1.cell? ⟨w.heap.size + 1, 4, none⟩ = some (.slice none 0 0) := ar.cell 4
    have AR := Lib.hid ar; clear ar
    go_wp2_with fail
    have AF := AR.out.store5 (.string ⟨#[]⟩) (.int .i64 0) (.int .i64 0) (.slice none 0 0) (.slice none 0 0)
    have y0 : (((((w1.setCell ⟨w.heap.size + 1, 0, none⟩ (.string ⟨#[]⟩)).setCell ⟨w.heap.size + 1, 1, none⟩ (.int .i64 0)).setCell ⟨w.heap.size + 1, 2, none⟩ (.int .i64 0)).setCell ⟨w.heap.size + 1, 3, none⟩ (.slice none 0 0)).setCell ⟨w.heap.size + 1, 4, none⟩ (.slice none 0 0)).cell? ⟨w.heap.size + 1, 0, none⟩ = some (.string ⟨#[]⟩) := AF.cell 0
    have y1 : (((((w1.setCell ⟨w.heap.size + 1, 0, none⟩ (.string ⟨#[]⟩)).setCell ⟨w.heap.size + 1, 1, none⟩ (.int .i64 0)).setCell ⟨w.heap.size + 1, 2, none⟩ (.int .i64 0)).setCell ⟨w.heap.size + 1, 3, none⟩ (.slice none 0 0)).setCell ⟨w.heap.size + 1, 4, none⟩ (.slice none 0 0)).cell? ⟨w.heap.size + 1, 1, none⟩ = some (.int .i64 0) := AF.cell 1
    have y2 : (((((w1.setCell ⟨w.heap.size + 1, 0, none⟩ (.string ⟨#[]⟩)).setCell ⟨w.heap.size + 1, 1, none⟩ (.int .i64 0)).setCell ⟨w.heap.size + 1, 2, none⟩ (.int .i64 0)).setCell ⟨w.heap.size + 1, 3, none⟩ (.slice none 0 0)).setCell ⟨w.heap.size + 1, 4, none⟩ (.slice none 0 0)).cell? ⟨w.heap.size + 1, 2, none⟩ = some (.int .i64 0) := AF.cell 2
    have y3 : (((((w1.setCell ⟨w.heap.size + 1, 0, none⟩ (.string ⟨#[]⟩)).setCell ⟨w.heap.size + 1, 1, none⟩ (.int .i64 0)).setCell ⟨w.heap.size + 1, 2, none⟩ (.int .i64 0)).setCell ⟨w.heap.size + 1, 3, none⟩ (.slice none 0 0)).setCell ⟨w.heap.size + 1, 4, none⟩ (.slice none 0 0)).cell? ⟨w.heap.size + 1, 3, none⟩ = some (.slice none 0 0) := AF.cell 3
    have y4 : (((((w1.setCell ⟨w.heap.size + 1, 0, none⟩ (.string ⟨#[]⟩)).setCell ⟨w.heap.size + 1, 1, none⟩ (.int .i64 0)).setCell ⟨w.heap.size + 1, 2, none⟩ (.int .i64 0)).setCell ⟨w.heap.size + 1, 3, none⟩ (.slice none 0 0)).setCell ⟨w.heap.size + 1, 4, none⟩ (.slice none 0 0)).cell? ⟨w.heap.size + 1, 4, none⟩ = some (.slice none 0 0) := AF.cell 4
    exact bodyPost_ret (v := .tuple #[.agg #[.string ⟨#[]⟩, .int .i64 0, .int .i64 0, .slice none 0 0, .slice none 0 0], .int .i64 EE]) (by simp [results, Try.results11, go_sem, y0, y1, y2, y3, y4]) rfl (.inl ⟨by rw [← HO.out]; exact Q.out, by rw [← HO.out], below_set5 b0 (by omega) _ _ _ _ _⟩)
  subst q
  have ok := calOk_of HO.out.symm
  obtain ⟨C, rfl⟩ : ∃ C : Nat, c = (C : Int) := ⟨c.toNat, by have := ok.cy1; omega⟩
  have cy1 : 1 ≤ C := by have := ok.cy1; omega
  have cy2 : C ≤ 3000 := by have := ok.cy2; omega
  have hn1 : 1 ≤ n1 := by have := ok.ml1; have := L1.out; omega
  have hn2 : n1 ≤ 20 := by have := ok.ml2; have := L1.out; omega
  have hl3 : n2 ≤ 3000 := by have := ok.count.2; have := L2.out; omega
  have OK := Lib.hid ok
  have hself := Lib.hid (perB_self C ls)
  clear ok
  rintro e w1 ⟨rfl, hb⟩
  replace b0 := below_then b0 hb
  replace ar := ar.then_ hb
  replace a0 := a0.then_ hb
  clear hb
  have d0 := a0.cell 0; have d1 := a0.cell 1; have d2 := a0.cell 2; have d3 := a0.cell 3; have d4 := a0.cell 4; simp at d0 d1 d2 d3 d4
  go_wp2_with fail
  refine (compile_Flags _ s f C a1 a2 n1 c1 n2 c2 ms ls OK.out ⟨H1.out.far (Below.refl _ _) b0, (H2.out.below b0 (Nat.le_refl _)).more b0.size⟩).mono ?_
  rintro e w2 ⟨g, rfl, hg, hb⟩
  replace b0 := below_then b0 hb
  replace ar := ar.then_ hb
  replace a0 := a0.then_ hb
  have hl0 := a0.lt; have hl1 := ar.lt
  clear hb d0 d1 d2 d3 d4
  have A0 := Lib.hid a0; have AR := Lib.hid ar; have B0 := Lib.hid b0; have MG := Lib.hid hg
  clear a0 ar b0 hg
  go_wp2_with fail
  go_loopw [6] (fun vn wr => ∃ k : Nat, k + 1 ≤ C ∧ vn = .int .i64 ((k : Int) + 1) ∧ (∀ m, 1 ≤ m → m < k + 1 → perB C ls m = false) ∧ Below w2.heap.size w2 wr) (fun vn _ => C + 1 - (intOf vn).toNat)
  case atStart => exact ⟨0, by omega, rfl, fun m h1 h2 => by omega, Below.refl _ _⟩
  case round =>
    obtain ⟨k, hkC, rfl, hmin, bw⟩ := hrel
    obtain ⟨W3, rfl⟩ : ∃ W3, W3 = wr := ⟨_, rfl⟩
    have HMIN := Lib.hid hmin; clear hmin
    have a0 := A0.out.then_ bw
    have ar := AR.out.then_ bw
    have b0 := below_then B0.out bw
    have mg := MG.out.then_ bw
    have hbs := bw.size
    obtain ⟨hrem, hrem2⟩ := rem_nat C k
    have hk0 : ((k : Int) + 1 == 0) = false := by simp; omega
    have hk0' : (k : Int) + 1 ≠ 0 := by omega
    have hrl : C % (k + 1) ≤ 3000 := Nat.le_trans (Nat.mod_le _ _) cy2
    have A03 := Lib.hid a0; have MG3 := Lib.hid mg
    by_cases hdv : C % (k + 1) = 0
    case neg =>
      have hper := Lib.hid (show perB C ls (k + 1) = false by unfold perB; rw [decide_eq_false hdv]; rfl)
      have hkC2 : k + 1 + 1 ≤ C := by
        rcases Nat.lt_or_ge (k + 1) C with h | h
        · exact h
        · have e : k + 1 = C := by omega
          have := hper.out; rw [e, hself.out] at this; cases this
      have hrz : (((C % (k + 1) : Nat) : Int) == 0) = false := by rw [beq_eq_false_iff_ne]; intro e; exact hdv (Int.natCast_eq_zero.1 e)
      generalize C % (k + 1) = r at *
      have hrz4 : ((r : Int) != 0) = true := by rw [bne, hrz]; rfl
      clear hrz hdv
      go_upto_region 7 with fail
      have x2 : W3.cell? ⟨w.heap.size, 2, none⟩ = some (.int .i64 (C : Int)) := a0.cell 2
      go_quiet (fail)
      go_wp2_with fail
      go_roundw
      case rel => exact ⟨k + 1, hkC2, by go_num, fun m hm1 hm2 => by
        rcases Nat.lt_or_ge m (k + 1) with h | h
        · exact HMIN.out m hm1 h
        · obtain rfl : m = k + 1 := by omega
          exact hper.out, by (repeat' (first | exact Below.refl _ _ | assumption | refine Below.drew ?_ | refine below_drewN ?_ _ | refine below_new ?_ _ | refine below_set ?_ ?_ _ | refine below_then ?_ (by assumption) | refine below_drawn ?_ (by assumption) | exact Nat.le_refl _ | omega | (simp; done) | (simp; omega)))⟩
      case measure => first | (simp [intOf]; done) | (simp [intOf]; omega)
    rw [hdv] at hrem hrem2
    obtain ⟨p1, hp1, hq1, hq2⟩ := cut_loB g C C (k + 1) ((k : Int) + 1) (by omega) hkC (Nat.le_refl _)
    obtain ⟨hq3, hq4⟩ := cut_hiB g C C (C - (k + 1)) ((C : Int) - ((k : Int) + 1)) (by omega) (by omega)
    have hw1 : IntKind.i64.wrap ((C : Int) - ((k : Int) + 1)) = (C : Int) - ((k : Int) + 1) := IntWalk.i64_in _ (by omega)
    obtain ⟨P, hP⟩ : ∃ P, P = perTo ls (k + 1) (C - (k + 1)) := ⟨_, rfl⟩
    have HPP := Lib.hid hP
    have hperE := Lib.hid (show perB C ls (k + 1) = P by unfold perB; rw [decide_eq_true hdv, hP]; rfl)
    clear hP
    go_upto_region 7 with fail
    (refine region_class (Below W3.heap.size W3) (by kernel_rfl) (by kernel_rfl) ((Below.refl _ _).drew) ?_; repeat ((first | (refine class_take ?_ (by rfl) ?_ ?_; rotate_left; focus (intro wq hq; ((have o1 := A03.out.then_ hq; have mg4 := MG3.out.then_ hq; have x2 : wq.cell? ⟨w.heap.size, 2, none⟩ = some (.int .i64 (C : Int)) := o1.cell 2)); go_simp; first | done | with_reducible rfl | ((go_at_call 26; refine (slices_Equal _ g C (k + 1) _ _ _ _ _ _ ls hkC cy2 (by first | rfl | omega) (by first | rfl | omega) (by first | exact fun h => hp1 (by omega) | exact fun _ => rfl | (intro h; simp; omega)) (fun _ => rfl) mg4).mono ?_; rw [← HPP.out]; rintro e w' ⟨rfl, hdr⟩; refine ⟨?_, below_drawn hq hdr⟩; with_reducible rfl)))) | refine class_skip (by rfl) ?_); try simp only [Act.put, List.setIfInBounds_toArray, List.set_cons_zero, List.set_cons_succ]))
    refine wpQuiet_nil ?_
    intro W4 hb4
    clear hq1 hq2 hq3 hq4 hw1 hp1 hrem
    cases P with
    | false =>
      have hkC2 : k + 1 + 1 ≤ C := by
        rcases Nat.lt_or_ge (k + 1) C with h | h
        · exact h
        · have e : k + 1 = C := by omega
          have := hperE.out; rw [e, hself.out] at this; cases this
      go_wp2_with fail
      go_roundw
      case rel => exact ⟨k + 1, hkC2, by go_num, fun m hm1 hm2 => by
        rcases Nat.lt_or_ge m (k + 1) with h | h
        · exact HMIN.out m hm1 h
        · obtain rfl : m = k + 1 := by omega
          exact hperE.out, below_then bw hb4⟩
      case measure => first | (simp [intOf]; done) | (simp [intOf]; omega)
    | true =>
      clear a0 ar b0 mg A03 MG3 hbs
      have a0 := A0.out.then_ (below_then bw hb4)
      have ar := AR.out.then_ (below_then bw hb4)
      have b0 := below_then B0.out (below_then bw hb4)
      clear bw hb4
      obtain ⟨W5, rfl⟩ : ∃ W5, W5 = W3 := ⟨_, rfl⟩
      obtain ⟨W3, rfl⟩ : ∃ W3, W3 = W4 := ⟨_, rfl⟩
      have hl0 := a0.lt; have hl1 := ar.lt
      have d0 : W3.cell? ⟨w.heap.size, 0, none⟩ = some (.string s) := a0.cell 0
      have d1 : W3.cell? ⟨w.heap.size, 1, none⟩ = some (.int .i64 f) := a0.cell 1
      have d3 : W3.cell? ⟨w.heap.size, 3, none⟩ = some (.slice a1 n1 c1) := a0.cell 3
      have g0 : (W3.alloc (.cells #[.string ⟨#[]⟩, .int .i64 0, .int .i64 0, .slice none 0 0, .slice none 0 0] 30)).drew.cell? ⟨w.heap.size, 0, none⟩ = some (.string s) := cell_allocL d0
      have e0 : W3.drew.cell? ⟨w.heap.size, 0, none⟩ = some (.string s) := d0
      have g1 : (W3.alloc (.cells #[.string ⟨#[]⟩, .int .i64 0, .int .i64 0, .slice none 0 0, .slice none 0 0] 30)).drew.cell? ⟨w.heap.size, 1, none⟩ = some (.int .i64 f) := cell_allocL d1
      have e1 : W3.drew.cell? ⟨w.heap.size, 1, none⟩ = some (.int .i64 f) := d1
      have g3 : (W3.alloc (.cells #[.string ⟨#[]⟩, .int .i64 0, .int .i64 0, .slice none 0 0, .slice none 0 0] 30)).drew.cell? ⟨w.heap.size, 3, none⟩ = some (.slice a1 n1 c1) := cell_allocL d3
      have e3 : W3.drew.cell? ⟨w.heap.size, 3, none⟩ = some (.slice a1 n1 c1) := d3
      go_upto_region 8 with fail
      go_cut [7] from 38 to 47 (fun p wx => ∃ (G gb cc : Nat) (cur : Array Value), p = .pointer (some ⟨G, 0, none⟩) ∧ n1 ≤ cc ∧ gb ≠ G ∧ W3.heap.size ≤ gb ∧ W3.heap.size ≤ G ∧ At wx G (.cells #[.string s, .int .i64 f, .int .i64 ((k : Int) + 1), .slice (some ⟨gb, 0, none⟩) n1 cc, .slice none 0 0] 30) ∧ At wx gb (.cells cur 58) ∧ (∀ w', At w' gb (.cells cur 58) → Months w' w'.heap.size (some ⟨gb, 0, none⟩) n1 ms) ∧ Below W3.heap.size W3 wx)
      case first =>
        go_region_held3 (fun w' => w'.cell? ⟨w.heap.size, 0, none⟩ = some (.string s) ∧ w'.cell? ⟨w.heap.size, 1, none⟩ = some (.int .i64 f) ∧ w'.cell? ⟨w.heap.size, 3, none⟩ = some (.slice a1 n1 c1))
          (first
            | with_reducible exact ⟨d0, d1, d3⟩
            | with_reducible exact ⟨e0, e1, e3⟩
            | with_reducible exact ⟨g0, g1, g3⟩
            | with_reducible exact ⟨cell_allocL e0, cell_allocL e1, cell_allocL e3⟩
            | with_reducible exact ⟨(hb.cell (p := ⟨w.heap.size, 0, none⟩) (by first | (simp only; omega) | (simp; omega))).trans (by first | with_reducible exact e0 | with_reducible exact g0), (hb.cell (p := ⟨w.heap.size, 1, none⟩) (by first | (simp only; omega) | (simp; omega))).trans (by first | with_reducible exact e1 | with_reducible exact g1), (hb.cell (p := ⟨w.heap.size, 3, none⟩) (by first | (simp only; omega) | (simp; omega))).trans (by first | with_reducible exact e3 | with_reducible exact g3)⟩
            | with_reducible exact ⟨cell_allocL ((hb.cell (p := ⟨w.heap.size, 0, none⟩) (by first | (simp only; omega) | (simp; omega))).trans (by first | with_reducible exact e0 | with_reducible exact g0)), cell_allocL ((hb.cell (p := ⟨w.heap.size, 1, none⟩) (by first | (simp only; omega) | (simp; omega))).trans (by first | with_reducible exact e1 | with_reducible exact g1)), cell_allocL ((hb.cell (p := ⟨w.heap.size, 3, none⟩) (by first | (simp only; omega) | (simp; omega))).trans (by first | with_reducible exact e3 | with_reducible exact g3))⟩
            | with_reducible exact ⟨cell_set5L (by first | (simp only; omega) | (simp; omega)) ((hb.cell (p := ⟨w.heap.size, 0, none⟩) (by first | (simp only; omega) | (simp; omega))).trans (by first | with_reducible exact e0 | with_reducible exact g0)), cell_set5L (by first | (simp only; omega) | (simp; omega)) ((hb.cell (p := ⟨w.heap.size, 1, none⟩) (by first | (simp only; omega) | (simp; omega))).trans (by first | with_reducible exact e1 | with_reducible exact g1)), cell_set5L (by first | (simp only; omega) | (simp; omega)) ((hb.cell (p := ⟨w.heap.size, 3, none⟩) (by first | (simp only; omega) | (simp; omega))).trans (by first | with_reducible exact e3 | with_reducible exact g3))⟩)
          ((go_at_call 20; refine (clone_months _ a1 n1 c1 ms ?_ hn1 hn2).mono ?_; (exact H1.out.far b0 (by first | assumption | exact (Below.refl _ _).drew | exact below_new (Below.refl _ _).drew _ | exact Below.drew (below_new (Below.refl _ _) _) | exact below_new (Below.refl _ _) _)); rintro e w' ⟨aa, cc, rfl, hcc1, hmm, hb⟩; have hbz : w.heap.size < w'.heap.size := Nat.lt_of_lt_of_le (by first | assumption | (simp; omega)) hb.size; (try have hz := (At.new W3 (.cells #[.string ⟨#[]⟩, .int .i64 0, .int .i64 0, .slice none 0 0, .slice none 0 0] 30)).drew.then_ hb); (try have f0 : w'.frozen? ⟨W3.heap.size, 0, none⟩ = false := hz.frozen 0); (try have z0 : w'.cell? ⟨W3.heap.size, 0, none⟩ = some (.string ⟨#[]⟩) := hz.cell 0); (try have f1 : w'.frozen? ⟨W3.heap.size, 1, none⟩ = false := hz.frozen 1); (try have z1 : w'.cell? ⟨W3.heap.size, 1, none⟩ = some (.int .i64 0) := hz.cell 1); (try have f2 : w'.frozen? ⟨W3.heap.size, 2, none⟩ = false := hz.frozen 2); (try have z2 : w'.cell? ⟨W3.heap.size, 2, none⟩ = some (.int .i64 0) := hz.cell 2); (try have f3 : w'.frozen? ⟨W3.heap.size, 3, none⟩ = false := hz.frozen 3); (try have z3 : w'.cell? ⟨W3.heap.size, 3, none⟩ = some (.slice none 0 0) := hz.cell 3); (try have f4 : w'.frozen? ⟨W3.heap.size, 4, none⟩ = false := hz.frozen 4); (try have z4 : w'.cell? ⟨W3.heap.size, 4, none⟩ = some (.slice none 0 0) := hz.cell 4)))
        · obtain ⟨gb, cur, rfl, hgb, hat, hmon⟩ := own_months_atL hmm hn1 L1.out H1.out.2
          have hgl := hat.lt
          have r1 := At.new w' (.cells #[.string s, .int .i64 f, .int .i64 ((k : Int) + 1), .slice (some ⟨gb, 0, none⟩) n1 cc, .slice none 0 0] 30)
          have r2 := hat.alloc (.cells #[.string s, .int .i64 f, .int .i64 ((k : Int) + 1), .slice (some ⟨gb, 0, none⟩) n1 cc, .slice none 0 0] 30)
          have r3 : Below W3.heap.size W3 (w'.alloc (.cells #[.string s, .int .i64 f, .int .i64 ((k : Int) + 1), .slice (some ⟨gb, 0, none⟩) n1 cc, .slice none 0 0] 30)) := below_new ((below_drewN (Below.refl W3.heap.size W3) 1).trans hb) (.cells #[.string s, .int .i64 f, .int .i64 ((k : Int) + 1), .slice (some ⟨gb, 0, none⟩) n1 cc, .slice none 0 0] 30)
          have hs : W3.heap.size ≤ w'.heap.size := hb.size
          go_wp2_with fail
          go_meet
          case rel => exact ⟨w'.heap.size, gb, cc, cur, rfl, hcc1, by omega, hgb, hs, r1, r2, hmon, r3⟩
        · obtain ⟨gb, cur, rfl, hgb, hat, hmon⟩ := own_months_atL hmm hn1 L1.out H1.out.2
          have hgl := hat.lt
          have hse : (World.alloc W3 (.cells #[.string ⟨#[]⟩, .int .i64 0, .int .i64 0, .slice none 0 0, .slice none 0 0] 30)).heap.size = W3.heap.size + 1 := by simp only [World.size_alloc]
          have hgb' : W3.heap.size + 1 ≤ gb := by rw [← hse]; exact hgb
          have r1 := hz.store5 (.string s) (.int .i64 f) (.int .i64 ((k : Int) + 1)) (.slice (some ⟨gb, 0, none⟩) n1 cc) (.slice none 0 0)
          have r2 := hat.apart5 (p := W3.heap.size) (by omega) (.string s) (.int .i64 f) (.int .i64 ((k : Int) + 1)) (.slice (some ⟨gb, 0, none⟩) n1 cc) (.slice none 0 0)
          have r3 := below_set5 (((below_new (Below.refl W3.heap.size W3) (.cells #[.string ⟨#[]⟩, .int .i64 0, .int .i64 0, .slice none 0 0, .slice none 0 0] 30)).drew).trans (hb.mono (Nat.le_trans (Nat.le_succ _) (Nat.le_of_eq hse.symm)))) (show W3.heap.size ≤ W3.heap.size by omega) (.string s) (.int .i64 f) (.int .i64 ((k : Int) + 1)) (.slice (some ⟨gb, 0, none⟩) n1 cc) (.slice none 0 0)
          go_wp2_with fail
          go_meet
          case rel => exact ⟨W3.heap.size, gb, cc, cur, rfl, hcc1, by omega, by omega, by omega, r1, r2, hmon, r3⟩
      case rest =>
      obtain ⟨G, gb, cc, cur, rfl, hcc, hne, hgbw, hGw, ac, am, hmon, bc⟩ := hcut
      have HMON := Lib.hid hmon
      have A1 := Lib.hid (a0.then_ bc); have AR1 := Lib.hid (ar.then_ bc); have B1 := Lib.hid (below_then b0 bc); have AM := Lib.hid am
      have hGl := ac.lt
      have hml := am.lt
      clear a0 ar b0 hmon am bc d0 d1 d3 e0 e1 e3 g0 g1 g3
      obtain ⟨W1, rfl⟩ : ∃ W1, W1 = wc := ⟨_, rfl⟩
      have x4 : W1.cell? ⟨w.heap.size, 4, none⟩ = some (.slice a2 n2 c2) := A1.out.cell 4
      go_wp2_with fail
      clear x4
      simp only [Bool.not_true]
      go_loopw [9, 50] (fun _ vq wr => ∃ (q : Nat) (v : Value), q ≤ n2 ∧ vq = .int .i64 q ∧ wr.ownsRow W1.heap.size 3 1 v ((ls.take q).filter fun y => decide (y ≤ (k : Int) + 1)).length (((ls.take q).filter fun y => decide (y ≤ (k : Int) + 1)).map (Value.int .i64)) ∧ At wr G (.cells #[.string s, .int .i64 f, .int .i64 ((k : Int) + 1), .slice (some ⟨gb, 0, none⟩) n1 cc, v] 30) ∧ OneKept G W1 wr) (fun _ vq _ => n2 - (intOf vq).toNat)
      case atStart => exact ⟨0, .slice none 0 0, by omega, rfl, World.ownsRow_nil _ _ _ _, ac, OneKept.refl _ _⟩
      case round =>
        clear ac
        obtain ⟨q, v, hq, rfl, hown, ac, bw⟩ := hrel
        obtain ⟨W6, rfl⟩ : ∃ W6, W6 = wr := ⟨_, rfl⟩
        have OWN := Lib.hid hown; have AC := Lib.hid ac; have BW := Lib.hid bw
        have b6 := bw.below_own B1.out (by omega)
        have hbs := bw.size
        have hgl := ac.lt
        have hfl := filt_len ls ((k : Int) + 1) q
        clear hown
        by_cases hlt : q < n2
        · obtain ⟨fb, foff, y, rfl, hfB, hfc, hx, y1, y2⟩ := ((H2.out.below b6 (Nat.le_refl _)).more b6.size).at_ hlt
          have x4 : W6.cell? ⟨G, 4, none⟩ = some v := ac.cell 4
          by_cases hyN : y ≤ (k : Int) + 1
          · have HF := Lib.hid (filt_yes hx hyN)
            clear hx ac bw
            go_upto_region 13 with fail
            obtain ⟨zs, hzs⟩ : ∃ zs, zs = ((ls.take q).filter fun y => decide (y ≤ (k : Int) + 1)) := ⟨_, rfl⟩
            rw [← hzs] at OWN hfl
            rw [← hzs] at HF
            have HZS := Lib.hid hzs
            clear hzs hfc
            go_wp2_with (at_builtin; refine wpList_append_own _ rfl _ _ 28 rfl W1.heap.size 3 i0 (.int .i64 0) 1 8 Try.underlying28 hi hz0 hz1 hz2 rfl (by decide) _ _ _ rfl (OWN.out.alloc _) ⟨W6.heap.size, 0, none⟩ 1 1 [.int .i64 y] rfl rfl (World.news_of_block (cs := #[.int .i64 y]) (t := 3) (fr := (0, 0)) (heap_alloc_new W6 _)) (by simp [Value.oneCell']) (by unfold maxLen; omega) (by omega) (by first | omega | (simp; omega)) ?_; intro v' w4 hown' hgrow _; (obtain ⟨gg, cap, hv, hg4, hl4⟩ := hown'.form (by omega)); subst hv; have ac4 := (AC.out.alloc (.cells #[.int .i64 y] 3)).grownL hgrow (own_nearL OWN.out (by omega)); have y4 : w4.cell? ⟨G, 4, none⟩ = some v := ac4.cell 4; have y5 : w4.frozen? ⟨G, 4, none⟩ = false := ac4.frozen 4)
            have bw4 : OneKept G W1 w4 := (BW.out.alloc (.cells #[.int .i64 y] 3)).grownL hgrow (fun b hb => by
              rcases Nat.lt_or_ge b W1.heap.size with h | h
              · exact absurd hb.symm (own_nearL OWN.out h)
              · exact h)
            have ow4 := Lib.hid (own_setL hown' (p := ⟨G, 4, none⟩) (by simp only; omega) (.slice (some ⟨gg, 0, none⟩) (zs.length + 1) cap))
            have AC4 := Lib.hid (ac4.store 4 (.slice (some ⟨gg, 0, none⟩) (zs.length + 1) cap))
            have BW4 := Lib.hid (bw4.set 4 (.slice (some ⟨gg, 0, none⟩) (zs.length + 1) cap))
            clear hown' hgrow ac4 bw4
            go_wp2_with fail
            go_roundw
            case rel => exact ⟨q + 1, _, by omega, by go_num, by rw [HF.out, List.length_append, List.map_append]; exact ow4.out, AC4.out, BW4.out⟩
            case measure => first | (simp [intOf]; done) | (simp [intOf]; omega)
          · have HF := Lib.hid (filt_no hx hyN)
            have hyN2 : (k : Int) + 1 < y := by omega
            clear hx hyN
            go_wp2_with fail
            go_roundw
            case rel => exact ⟨q + 1, v, by omega, by go_num, by rw [HF.out]; exact OWN.out, AC.out, BW.out⟩
            case measure => first | (simp [intOf]; done) | (simp [intOf]; omega)
        · obtain rfl : n2 = q := by omega
          rw [List.take_of_length_le (show ls.length ≤ n2 by have := L2.out; omega)] at OWN
          have HI0 := Lib.hid (show ∀ z ∈ ls.filter (fun y => decide (y ≤ (k : Int) + 1)), I64 z from fun z hz => by have := OK.out.leaps z (List.mem_filter.1 hz).1; unfold I64; omega)
          obtain ⟨aa, ca, rfl, hc1, hc2, _⟩ := own_ints OWN.out HI0.out rfl
          have AMf := AM.out.oneKept bw hne
          have ar := AR1.out.oneKept bw (by omega)
          have g0 := ac.cell 0; have g1 := ac.cell 1; have g2 := ac.cell 2; have g3 := ac.cell 3; have g4 := ac.cell 4; simp at g0 g1 g2 g3 g4
          obtain ⟨zl, hzl⟩ : ∃ zl, zl = (ls.filter (fun y => decide (y ≤ (k : Int) + 1))).length := ⟨_, rfl⟩
          rw [← hzl] at OWN g4
          have HZL := Lib.hid hzl
          clear hzl hfl
          have f0 : W6.frozen? ⟨w.heap.size + 1, 0, none⟩ = false := ar.frozen 0
          have f1 : W6.frozen? ⟨w.heap.size + 1, 1, none⟩ = false := ar.frozen 1
          have f2 : W6.frozen? ⟨w.heap.size + 1, 2, none⟩ = false := ar.frozen 2
          have f3 : W6.frozen? ⟨w.heap.size + 1, 3, none⟩ = false := ar.frozen 3
          have f4 : W6.frozen? ⟨w.heap.size + 1, 4, none⟩ = false := ar.frozen 4
          have z0 : W6.cell? ⟨w.heap.size + 1, 0, none⟩ = some (.string ⟨#[]⟩) := ar.cell 0
          have z1 : W6.cell? ⟨w.heap.size + 1, 1, none⟩ = some (.int .i64 0) := ar.cell 1
          have z2 : W6.cell? ⟨w.heap.size + 1, 2, none⟩ = some (.int .i64 0) := ar.cell 2
          have z3 : W6.cell? ⟨w.heap.size + 1, 3, none⟩ = some (.slice none 0 0) := ar.cell 3
          have z4 : W6.cell? ⟨w.heap.size + 1, 4, none⟩ = some (.slice none 0 0) := ar.cell 4
          have AR := Lib.hid ar; clear ar
          go_wp2_with fail
          have AF := AR.out.store5 (.string s) (.int .i64 f) (.int .i64 ((k : Int) + 1)) (.slice (some ⟨gb, 0, none⟩) n1 cc) (.slice aa zl ca)
          have y0 : (((((W6.setCell ⟨w.heap.size + 1, 0, none⟩ (.string s)).setCell ⟨w.heap.size + 1, 1, none⟩ (.int .i64 f)).setCell ⟨w.heap.size + 1, 2, none⟩ (.int .i64 ((k : Int) + 1))).setCell ⟨w.heap.size + 1, 3, none⟩ (.slice (some ⟨gb, 0, none⟩) n1 cc)).setCell ⟨w.heap.size + 1, 4, none⟩ (.slice aa zl ca)).cell? ⟨w.heap.size + 1, 0, none⟩ = some (.string s) := AF.cell 0
          have y1 : (((((W6.setCell ⟨w.heap.size + 1, 0, none⟩ (.string s)).setCell ⟨w.heap.size + 1, 1, none⟩ (.int .i64 f)).setCell ⟨w.heap.size + 1, 2, none⟩ (.int .i64 ((k : Int) + 1))).setCell ⟨w.heap.size + 1, 3, none⟩ (.slice (some ⟨gb, 0, none⟩) n1 cc)).setCell ⟨w.heap.size + 1, 4, none⟩ (.slice aa zl ca)).cell? ⟨w.heap.size + 1, 1, none⟩ = some (.int .i64 f) := AF.cell 1
          have y2 : (((((W6.setCell ⟨w.heap.size + 1, 0, none⟩ (.string s)).setCell ⟨w.heap.size + 1, 1, none⟩ (.int .i64 f)).setCell ⟨w.heap.size + 1, 2, none⟩ (.int .i64 ((k : Int) + 1))).setCell ⟨w.heap.size + 1, 3, none⟩ (.slice (some ⟨gb, 0, none⟩) n1 cc)).setCell ⟨w.heap.size + 1, 4, none⟩ (.slice aa zl ca)).cell? ⟨w.heap.size + 1, 2, none⟩ = some (.int .i64 ((k : Int) + 1)) := AF.cell 2
          have y3 : (((((W6.setCell ⟨w.heap.size + 1, 0, none⟩ (.string s)).setCell ⟨w.heap.size + 1, 1, none⟩ (.int .i64 f)).setCell ⟨w.heap.size + 1, 2, none⟩ (.int .i64 ((k : Int) + 1))).setCell ⟨w.heap.size + 1, 3, none⟩ (.slice (some ⟨gb, 0, none⟩) n1 cc)).setCell ⟨w.heap.size + 1, 4, none⟩ (.slice aa zl ca)).cell? ⟨w.heap.size + 1, 3, none⟩ = some (.slice (some ⟨gb, 0, none⟩) n1 cc) := AF.cell 3
          have y4 : (((((W6.setCell ⟨w.heap.size + 1, 0, none⟩ (.string s)).setCell ⟨w.heap.size + 1, 1, none⟩ (.int .i64 f)).setCell ⟨w.heap.size + 1, 2, none⟩ (.int .i64 ((k : Int) + 1))).setCell ⟨w.heap.size + 1, 3, none⟩ (.slice (some ⟨gb, 0, none⟩) n1 cc)).setCell ⟨w.heap.size + 1, 4, none⟩ (.slice aa zl ca)).cell? ⟨w.heap.size + 1, 4, none⟩ = some (.slice aa zl ca) := AF.cell 4
          have bf := below_set5 b6 (show w.heap.size ≤ w.heap.size + 1 by omega) (.string s) (.int .i64 f) (.int .i64 ((k : Int) + 1)) (.slice (some ⟨gb, 0, none⟩) n1 cc) (.slice aa zl ca)
          have ownf := own_setL (own_setL (own_setL (own_setL (own_setL (OWN.out) (p := ⟨w.heap.size + 1, 0, none⟩) (by simp only; omega) (.string s)) (p := ⟨w.heap.size + 1, 1, none⟩) (by simp only; omega) (.int .i64 f)) (p := ⟨w.heap.size + 1, 2, none⟩) (by simp only; omega) (.int .i64 ((k : Int) + 1))) (p := ⟨w.heap.size + 1, 3, none⟩) (by simp only; omega) (.slice (some ⟨gb, 0, none⟩) n1 cc)) (p := ⟨w.heap.size + 1, 4, none⟩) (by simp only; omega) (.slice aa zl ca)
          obtain ⟨ab, cb, hve, hqq1, hqq2, hI⟩ := own_ints ownf HI0.out HZL.out.symm
          injection hve with hv1 _ hv3
          subst hv1 hv3
          exact bodyPost_ret (v := .tuple #[.agg #[.string s, .int .i64 f, .int .i64 ((k : Int) + 1), .slice (some ⟨gb, 0, none⟩) n1 cc, .slice aa zl ca], .int .i64 0]) (by simp [results, Try.results11, go_sem, y0, y1, y2, y3, y4]) rfl (.inr ⟨HO.out.symm, k, by omega, by rw [show ((C : Int)).toNat = C by omega]; exact hperE.out, by rw [show ((C : Int)).toNat = C by omega]; exact HMIN.out, some ⟨gb, 0, none⟩, n1, cc, aa, zl, ca, rfl, HMON.out _ (AMf.apart5 (p := w.heap.size + 1) (by omega) _ _ _ _ _), hI, bf⟩)
end Go.Proofs.Ytjpbkkoflaajcaa
