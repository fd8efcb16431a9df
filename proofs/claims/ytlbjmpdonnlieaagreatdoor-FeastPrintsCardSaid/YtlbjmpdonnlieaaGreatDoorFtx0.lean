/- The text of an expression of a feast, plain. -/
import Derived.Test.YtlbjmpdonnlieaaGreatDoorMgFa
import Derived.Test.YtlbjmpdonnlieaaGreatDoorMgPa
import Derived.Test.YtlbjmpdonnlieaaGreatDoorMg3
import Derived.Test.YtlbjmpdonnlieaaGreatDoorLayItoa
namespace Go.Proofs.YtlbjmpdonnlieaaGreatDoor
set_option linter.unusedVariables false
set_option linter.unusedSimpArgs false
set_option maxRecDepth 100000
open Go.RowKit

def lvF (k : Int) : Int := if k = 9 then 0 else if k = 10 ∨ k = 11 then 1 else if k = 8 ∨ k = 12 then 2 else if k = 7 then 3 else 4
def parF (least k : Int) (s : List UInt8) : List UInt8 := if lvF k < least then [40] ++ s ++ [41] else s
/-- The word between two kids. -/
def wordF (k : Int) : List UInt8 := if k = 9 then [111, 114] else if k = 10 then [97, 110, 100] else [110, 111, 116]
/-- Where a kind without kids begins. -/
def headF (k : Int) : List UInt8 := if k = 1 then [100, 97, 116, 101, 32] else if k = 2 then [109, 111, 110, 116, 104, 32] else if k = 3 then [119, 101, 101, 107, 100, 97, 121, 32] else if k = 4 then [101, 118, 101, 114, 121, 32] else if k = 5 then [100, 97, 121, 32] else [100, 97, 121, 115, 32]
/-- A kind without kids. -/
def leafF (k a b : Int) (s : List UInt8) : List UInt8 := if k = 1 then headF k ++ s ++ [32] ++ Lib.itoa a ++ [32] ++ Lib.itoa b else if k = 2 then headF k ++ s ++ [32] ++ Lib.itoa a else if k = 4 ∨ k = 6 then headF k ++ Lib.itoa a ++ [32] ++ Lib.itoa b else headF k ++ Lib.itoa a
/-- A kind with one kid, whose text is T. -/
def oneF (k a b : Int) (s T : List UInt8) : List UInt8 := if k = 7 then (if a < 0 then T ++ [32, 45, 32] ++ (Lib.itoa a).drop 1 else T ++ [32, 43, 32] ++ Lib.itoa a) else if k = 8 then [111, 110, 32] ++ Lib.itoa a ++ [32] ++ T
  else [110, 116, 104, 32] ++ Lib.itoa a ++ [32, 105, 110, 32] ++ s ++ [32] ++ Lib.itoa b ++ [32] ++ T
def twoF (k : Int) (T U : List UInt8) : List UInt8 := T ++ [32] ++ wordF k ++ [32] ++ U
def txtF : Fst → List UInt8
  | .node k a b s [] => leafF k a b s.data.toList
  | .node k a b s [t] => oneF k a b s.data.toList (parF (lvF k) t.kind (txtF t))
  | .node k a b s (t :: u :: _) => twoF k (parF (lvF k) t.kind (txtF t)) (parF (lvF k + 1) u.kind (txtF u))
theorem txtF_0 (k a b : Int) (s : ByteArray) : txtF (.node k a b s []) = leafF k a b s.data.toList := by rw [txtF]
theorem txtF_1 (k a b : Int) (s : ByteArray) (t : Fst) : txtF (.node k a b s [t]) = oneF k a b s.data.toList (parF (lvF k) t.kind (txtF t)) := by rw [txtF]
theorem txtF_2 (k a b : Int) (s : ByteArray) (t u : Fst) (l : List Fst) : txtF (.node k a b s (t :: u :: l)) = twoF k (parF (lvF k) t.kind (txtF t)) (parF (lvF k + 1) u.kind (txtF u)) := by rw [txtF]
theorem parF_len (least k : Int) (s : List UInt8) : s.length ≤ (parF least k s).length ∧ (parF least k s).length ≤ s.length + 2 := by
  unfold parF
  split
  · simp only [List.length_append, List.length_cons, List.length_nil]; omega
  · omega
theorem rows_names : ∀ r ∈ rowsL, decide ((cutL r 32).length ≤ 30) = true := by decide +kernel
theorem name_len {s : ByteArray} (h : monthsN s ≠ 0) : s.data.toList.length ≤ 30 := by
  unfold monthsN at h
  cases hr : rowOf s.data.toList with
  | none => rw [hr] at h; exact absurd rfl h
  | some r =>
    have h1 := of_decide_eq_true (rows_names r (List.mem_of_find?_eq_some hr))
    have h2 := List.find?_some hr
    have h3 : cutL r 32 = s.data.toList := by simpa using h2
    rw [← h3]; exact h1
theorem or_zero {u : Bool} {x : Int} (h : (u || decide (x = 0)) = true) (hu : u = false) : x = 0 := by subst hu; simpa using h
/-- The numbers of an expression are small. -/
theorem num_in {k a b : Int} {s : ByteArray} {ks : List Fst} (h : fstOk (.node k a b s ks)) : (-4000000 ≤ a ∧ a ≤ 4000000) ∧ (-4000000 ≤ b ∧ b ≤ 4000000) ∧ s.data.toList.length ≤ 30 := by
  obtain ⟨h1, h2, h3, _⟩ := fstOk_node h
  obtain ⟨k1, k2, _, _⟩ := formB_len h1
  unfold formB at h1
  simp only [Bool.and_eq_true] at h1
  obtain ⟨_, _, hA, hB, hN⟩ := h1
  have hm : usesN k = true → mostN k s ≤ 20 := fun hu => by
    obtain ⟨r, hr⟩ : ∃ r, rowOf s.data.toList = some r := by
      have := h2 hu
      unfold monthsN at this
      cases hr : rowOf s.data.toList with
      | none => rw [hr] at this; exact absurd rfl this
      | some r => exact ⟨r, rfl⟩
    unfold mostN
    rw [if_pos hu, monthsN_some hr]
    have := (row_months (List.mem_of_find?_eq_some hr)).2
    omega
  have hs : s.data.toList.length ≤ 30 := by
    cases hu : usesN k with
    | true => exact name_len (h2 hu)
    | false =>
      rw [hu] at hN
      have : s.size = 0 := by simpa using hN
      have := str_len s
      omega
  have zA := fun hu => or_zero hA hu
  have zB := fun hu => or_zero hB hu
  have key : (-4000000 ≤ a ∧ a ≤ 4000000) ∧ (-4000000 ≤ b ∧ b ≤ 4000000) := by
    rcases (show k = 1 ∨ k = 2 ∨ k = 3 ∨ k = 4 ∨ k = 5 ∨ k = 6 ∨ k = 7 ∨ k = 8 ∨ k = 9 ∨ k = 10 ∨ k = 11 ∨ k = 12 by omega) with rfl | rfl | rfl | rfl | rfl | rfl | rfl | rfl | rfl | rfl | rfl | rfl
    · have q : (inB 1 (mostN 1 s) a && inB 1 400 b) = true := h3
      simp only [Bool.and_eq_true] at q
      have q1 := inB_iff.1 q.1; have q2 := inB_iff.1 q.2; have q3 := hm rfl
      omega
    · have q : inB 1 (mostN 2 s) a = true := h3
      have q1 := inB_iff.1 q; have q3 := hm rfl; have q4 := zB rfl
      omega
    · have q : inB 0 6 a = true := h3
      have q1 := inB_iff.1 q; have q4 := zB rfl
      omega
    · have q : (inB 1 100000 a && inB 0 (a - 1) b) = true := h3
      simp only [Bool.and_eq_true] at q
      have q1 := inB_iff.1 q.1; have q2 := inB_iff.1 q.2
      omega
    · have q : inB (-4000000) 4000000 a = true := h3
      have q1 := inB_iff.1 q; have q4 := zB rfl
      omega
    · have q : (inB (-4000000) 4000000 a && (inB (-4000000) 4000000 b && decide (a ≤ b))) = true := h3
      simp only [Bool.and_eq_true] at q
      have q1 := inB_iff.1 q.1; have q2 := inB_iff.1 q.2.1
      omega
    · have q : inB (-400) 400 a = true := h3
      have q1 := inB_iff.1 q; have q4 := zB rfl
      omega
    · have q : inB 0 6 a = true := h3
      have q1 := inB_iff.1 q; have q4 := zB rfl
      omega
    · have e1 := zA rfl; have e2 := zB rfl; omega
    · have e1 := zA rfl; have e2 := zB rfl; omega
    · have e1 := zA rfl; have e2 := zB rfl; omega
    · have q : (inB (-50) 50 a && (decide (a ≠ 0) && inB 0 (mostN 12 s) b)) = true := h3
      simp only [Bool.and_eq_true] at q
      have q1 := inB_iff.1 q.1; have q2 := inB_iff.1 q.2.2; have q3 := hm rfl
      omega
  exact ⟨key.1, key.2, hs⟩
theorem itoa_small {a : Int} (h1 : -4000000 ≤ a) (h2 : a ≤ 4000000) : (Lib.itoa a).length ≤ 21 := Lib.itoa_length_le a (by omega) (by omega)
theorem leafF_len {k a b : Int} {s : List UInt8} (h1 : (Lib.itoa a).length ≤ 21) (h2 : (Lib.itoa b).length ≤ 21) (hs : s.length ≤ 30) : (leafF k a b s).length ≤ 90 := by
  have hh : (headF k).length ≤ 8 := by unfold headF; (repeat' split); all_goals simp
  unfold leafF
  repeat' split
  all_goals simp only [List.length_append, List.length_cons, List.length_nil]; omega
theorem oneF_len {k a b : Int} {s T : List UInt8} (h1 : (Lib.itoa a).length ≤ 21) (h2 : (Lib.itoa b).length ≤ 21) (hs : s.length ≤ 30) : (oneF k a b s T).length ≤ 90 + T.length ∧ T.length ≤ (oneF k a b s T).length := by
  unfold oneF
  repeat' split
  all_goals simp only [List.length_append, List.length_cons, List.length_nil, List.length_drop]; omega
theorem twoF_len {k : Int} {T U : List UInt8} : (twoF k T U).length ≤ 10 + T.length + U.length ∧ T.length + U.length ≤ (twoF k T U).length := by
  have hh : (wordF k).length ≤ 3 := by unfold wordF; (repeat' split); all_goals simp
  unfold twoF
  simp only [List.length_append, List.length_cons, List.length_nil]; omega
theorem txt_size : ∀ (t : Fst) (d u c : Int), (fstGo t d u c).1 = 0 → ((txtF t).length : Int) + 10 ≤ 120 * ((fstGo t d u c).2 - c) := by
  intro t
  refine Fst.all (P := fun t => ∀ (d u c : Int), (fstGo t d u c).1 = 0 → ((txtF t).length : Int) + 10 ≤ 120 * ((fstGo t d u c).2 - c)) ?_ t
  intro k a b s ks ih d u c h
  have hok := (fstGo_ok _ d u c h).1
  obtain ⟨⟨a1, a2⟩, ⟨b1, b2⟩, hs⟩ := num_in hok
  have ia := itoa_small a1 a2
  have ib := itoa_small b1 b2
  have hlen := (formB_len (fstOk_node hok).1).2.2.2
  rw [fstGo_node] at h ⊢
  by_cases h0 : nodeErr k a b s ks.length d u c ≠ 0
  · rw [if_pos h0] at h; exact absurd h h0
  rw [if_neg h0] at h ⊢
  match ks, hlen with
  | [], _ =>
    have := leafF_len (k := k) ia ib hs
    rw [txtF_0, fstRow]; simp only; omega
  | [x], _ =>
    rw [fstRow_cons] at h ⊢
    by_cases hx : (fstGo x (d + 1) (u + wideI k) (c + 1)).1 ≠ 0
    · rw [if_pos hx] at h; exact absurd h hx
    rw [if_neg hx, fstRow] at h ⊢
    have h1 := ih x (by simp) (d + 1) (u + wideI k) (c + 1) (Classical.not_not.1 hx)
    have h2 := parF_len (lvF k) x.kind (txtF x)
    have h3 := (oneF_len (k := k) (T := parF (lvF k) x.kind (txtF x)) ia ib hs).1
    rw [txtF_1]; simp only; omega
  | [x, y], _ =>
    rw [fstRow_cons] at h ⊢
    by_cases hx : (fstGo x (d + 1) (u + wideI k) (c + 1)).1 ≠ 0
    · rw [if_pos hx] at h; exact absurd h hx
    rw [if_neg hx, fstRow_cons] at h ⊢
    generalize hc : (fstGo x (d + 1) (u + wideI k) (c + 1)).2 = c2 at *
    by_cases hy : (fstGo y (d + 1) (u + wideI k) c2).1 ≠ 0
    · rw [if_pos hy] at h; exact absurd h hy
    rw [if_neg hy, fstRow] at h ⊢
    have h1 := ih x (by simp) (d + 1) (u + wideI k) (c + 1) (Classical.not_not.1 hx)
    have h1' := ih y (by simp) (d + 1) (u + wideI k) c2 (Classical.not_not.1 hy)
    have h2 := parF_len (lvF k) x.kind (txtF x)
    have h2' := parF_len (lvF k + 1) y.kind (txtF y)
    have h3 := (twoF_len (k := k) (T := parF (lvF k) x.kind (txtF x)) (U := parF (lvF k + 1) y.kind (txtF y))).1
    rw [txtF_2]; simp only; omega
  | _ :: _ :: _ :: _, hl => simp at hl
theorem txt_small {t : Fst} (h : fstErr t = 0) : (txtF t).length ≤ 4800 := by
  have h1 := txt_size t 1 0 0 h
  have h2 := (fstGo_count t 1 0 0 (by omega) (by omega)).2.2 h
  omega
/-- No kid's text is longer. -/
theorem txtF_kid {k a b : Int} {s : ByteArray} {ks : List Fst} (h : ks.length ≤ 2) : ∀ t ∈ ks, (txtF t).length ≤ (txtF (.node k a b s ks)).length := by
  intro t ht
  match ks, h, ht with
  | [x], _, ht =>
    simp at ht; subst ht
    rw [txtF_1]
    have h1 := parF_len (lvF k) t.kind (txtF t)
    have : (parF (lvF k) t.kind (txtF t)).length ≤ (oneF k a b s.data.toList (parF (lvF k) t.kind (txtF t))).length := by
      unfold oneF
      repeat' split
      all_goals simp only [List.length_append, List.length_cons, List.length_nil]; omega
    omega
  | [x, y], _, ht =>
    rw [txtF_2]
    have h1 := parF_len (lvF k) x.kind (txtF x)
    have h2 := parF_len (lvF k + 1) y.kind (txtF y)
    have h3 := (twoF_len (k := k) (T := parF (lvF k) x.kind (txtF x)) (U := parF (lvF k + 1) y.kind (txtF y))).2
    rcases List.mem_cons.1 ht with rfl | ht
    · omega
    · simp at ht; subst ht; omega
end Go.Proofs.YtlbjmpdonnlieaaGreatDoor
namespace Go.Proofs.YtlbjmpdonnlieaaGreatDoor
set_option linter.unusedVariables false
set_option linter.unusedSimpArgs false
set_option maxRecDepth 100000
open Go.RowKit Go.Shelf
theorem arr_size (l : List UInt8) : (⟨l.toArray⟩ : ByteArray).size = l.length := by show l.toArray.size = _; simp
theorem add_list (x y z : List UInt8) (hz : x ++ y = z) (h : x.length + y.length ≤ 100000) : ∀ W, (Op.stringOp .add ⟨x.toArray⟩ ⟨y.toArray⟩).run Tryz.prog W = .ok (.string ⟨z.toArray⟩) W := fun W => by
  rw [← hz, ← ByteArray.mk_append_mk]; exact run_string_add_sum W _ _ (by rw [arr_size, arr_size]; omega)
def ShowPost (s : List UInt8) (w : World) (e : Ending) (w' : World) : Prop := e = .returned (.string ⟨s.toArray⟩) ∧ Below w.heap.size w w'
def itoaS (n : Int) : ByteArray := ⟨(Lib.itoa n).toArray⟩
theorem lib_Itoa (n : Int) (w : World) (h0 : -9223372036854775808 ≤ n) (h1 : n ≤ 9223372036854775807) (ht : Pow w) :
    Calls Tryz.prog 53 #[.int .i64 n] w fun e w' => e = .returned (.string (itoaS n)) ∧ Below w.heap.size w w' :=
  (Any.strconv_Itoa Tryz.laysLaysMn171 n h0 h1 w ht).mono fun e w' ⟨he, k, os, hw⟩ => ⟨he, hw ▸ Lib.below_grow _ w (Nat.le_refl _) k os⟩

theorem feast_level (k : Int) (w : World) : Calls Tryz.prog 96 #[.int .i64 k] w fun e w' => e = .returned (.int .i64 (lvF k)) ∧ w = w' := by
  by_cases h : k = 9 ∨ k = 10 ∨ k = 11 ∨ k = 8 ∨ k = 12 ∨ k = 7
  · rcases h with rfl | rfl | rfl | rfl | rfl | rfl
    all_goals
      go_enter Tryz.func96, Tryz.ntmps96
      go_wp2_with fail
      go_ret
      exact ⟨rfl, rfl⟩
  · have ho := Lib.hid (show lvF k = 4 by unfold lvF; rw [if_neg (by omega), if_neg (by omega), if_neg (by omega), if_neg (by omega)])
    have h7 := kne (show k ≠ 7 by omega)
    have h8 := kne (show k ≠ 8 by omega)
    have h9 := kne (show k ≠ 9 by omega)
    have h10 := kne (show k ≠ 10 by omega)
    have h11 := kne (show k ≠ 11 by omega)
    have h12 := kne (show k ≠ 12 by omega)
    clear h
    go_enter Tryz.func96, Tryz.ntmps96
    go_wp2_with fail
    go_ret
    exact ⟨ret_int (by rw [ho.out]), rfl⟩
theorem lvF_in (k : Int) : 0 ≤ lvF k ∧ lvF k ≤ 4 := by
  unfold lvF
  repeat' split
  all_goals omega
/-- A kid's five cells, in every later world. -/
def KidAt (w : World) (b off : Nat) (k x y : Int) (s : ByteArray) (a : Option Addr) (n c : Nat) : Prop := b < w.heap.size ∧ w.cell? ⟨b, off, none⟩ = some (.int .i64 k) ∧ w.cell? ⟨b, off + 1, none⟩ = some (.int .i64 x) ∧ w.cell? ⟨b, off + 2, none⟩ = some (.int .i64 y) ∧ w.cell? ⟨b, off + 3, none⟩ = some (.string s) ∧ w.cell? ⟨b, off + 4, none⟩ = some (.slice a n c)
theorem KidAt.then_ {w w' : World} {b off : Nat} {k x y : Int} {s : ByteArray} {a : Option Addr} {n c : Nat} (h : KidAt w b off k x y s a n c) (hb : Below w.heap.size w w') : KidAt w' b off k x y s a n c :=
  ⟨by have := hb.size; have := h.1; omega, (hb.cell (p := ⟨b, _, none⟩) h.1).trans h.2.1, (hb.cell (p := ⟨b, _, none⟩) h.1).trans h.2.2.1, (hb.cell (p := ⟨b, _, none⟩) h.1).trans h.2.2.2.1, (hb.cell (p := ⟨b, _, none⟩) h.1).trans h.2.2.2.2.1, (hb.cell (p := ⟨b, _, none⟩) h.1).trans h.2.2.2.2.2⟩
/-- The boxes of feast.show: the feast, its level. -/
def ShowAt (w : World) (bf bo : Nat) (k a b : Int) (s : ByteArray) (ad : Option Addr) (n c : Nat) (own : Int) : Prop := At w bf (fO k a b s ad n c) ∧ At w bo (.cells #[.int .i64 own] 3)
theorem ShowAt.then_ {w w' : World} {bf bo : Nat} {k a b : Int} {s : ByteArray} {ad : Option Addr} {n c : Nat} {own : Int} (h : ShowAt w bf bo k a b s ad n c own) (hb : Below w.heap.size w w') : ShowAt w' bf bo k a b s ad n c own := ⟨h.1.then_ hb, h.2.then_ hb⟩
set_option maxHeartbeats 4000000 in
theorem show_two (W : World) (bf bo : Nat) (k a b : Int) (s : ByteArray) (gb off c : Nat) (own : Int) (k0 x0 y0 k1 x1 y1 : Int) (s0 s1 : ByteArray) (a0 a1 : Option Addr) (n0 c0 n1 c1 : Nat) (T U word : List UInt8) (hS : ShowAt W bf bo k a b s (some ⟨gb, off, none⟩) 2 c own)
    (hK0 : KidAt W gb off k0 x0 y0 s0 a0 n0 c0) (hK1 : KidAt W gb (off + 5) k1 x1 y1 s1 a1 n1 c1) (ho0 : 0 ≤ own) (ho1 : own ≤ 4) (hw : word.length ≤ 3) (hT : T.length ≤ 5000) (hU : U.length ≤ 5000)
    (h0 : ∀ V, Below W.heap.size W V → Calls Tryz.prog 52 #[.agg (fV k0 x0 y0 s0 a0 n0 c0), .int .i64 own] V (ShowPost T V))
    (h1 : ∀ V, Below W.heap.size W V → Calls Tryz.prog 52 #[.agg (fV k1 x1 y1 s1 a1 n1 c1), .int .i64 (own + 1)] V (ShowPost U V)) :
    Calls Tryz.prog 97 #[.string ⟨word.toArray⟩, .pointer (some ⟨bf, 0, none⟩), .pointer (some ⟨bo, 0, none⟩)] W (ShowPost (T ++ [32] ++ word ++ [32] ++ U) W) := by
  obtain ⟨S1, hS1⟩ : ∃ S, T ++ [32] = S := ⟨_, rfl⟩
  obtain ⟨S2, hS2⟩ : ∃ S, S1 ++ word = S := ⟨_, rfl⟩
  obtain ⟨S3, hS3⟩ : ∃ S, S2 ++ [32] = S := ⟨_, rfl⟩
  obtain ⟨S4, hS4⟩ : ∃ S, S3 ++ U = S := ⟨_, rfl⟩
  have z1 : S1.length ≤ 5001 := by rw [← hS1]; simp; omega
  have z2 : S2.length ≤ 5004 := by rw [← hS2]; simp; omega
  have z3 : S3.length ≤ 5005 := by rw [← hS3]; simp; omega
  have e1 := add_list T [32] S1 hS1 (by simp; omega)
  have e2 := add_list S1 word S2 hS2 (by omega)
  have e3 := add_list S2 [32] S3 hS3 (by simp; omega)
  have e4 := add_list S3 U S4 hS4 (by omega)
  rw [hS1, hS2, hS3, hS4]
  unfold ShowPost at h0 h1 ⊢
  have HS := Lib.hid hS; have HK0 := Lib.hid hK0; have HK1 := Lib.hid hK1; have H0 := Lib.hid h0; have H1 := Lib.hid h1
  have wo : IntKind.i64.wrap (own + 1) = own + 1 := IntWalk.i64_in _ (by omega)
  clear hS hK0 hK1 h0 h1 hS1 hS2 hS3 hS4 z1 z2 z3 hT hU hw
  go_enter Tryz.func97, Tryz.ntmps97
  go_upto_region 1 with fail
  (refine region_class (Below W.heap.size W) (by kernel_rfl) (by kernel_rfl) ((Below.refl _ _).drew) ?_; repeat ((first | (refine class_take ?_ (by rfl) ?_ ?_; rotate_left; focus (intro wq hq; ((have hs := HS.out.then_ hq; have hk0 := HK0.out.then_ hq; have hk1 := HK1.out.then_ hq; have f4 : wq.cell? ⟨bf, 4, none⟩ = some (.slice (some ⟨gb, off, none⟩) 2 c) := hs.1.cell 4; have fo : wq.cell? ⟨bo, 0, none⟩ = some (.int .i64 own) := hs.2.cell 0; obtain ⟨gl, p0, p1, p2, p3, p4⟩ := hk0; obtain ⟨gl', q0, q1, q2, q3, q4⟩ := hk1)); go_simp; first | done | with_reducible rfl | ((first | (go_at_call 52; (with_reducible refine (H0.out _ hq).mono ?_); rintro e w' ⟨rfl, hb⟩; refine ⟨?_, below_then hq hb⟩; with_reducible rfl) | (go_at_call 52; (with_reducible refine (H1.out _ hq).mono ?_); rintro e w' ⟨rfl, hb⟩; refine ⟨?_, below_then hq hb⟩; with_reducible rfl))))) | refine class_skip (by rfl) ?_); try simp only [Act.put, List.setIfInBounds_toArray, List.set_cons_zero, List.set_cons_succ]))
  refine wpQuiet_nil ?_
  intro W2 hW2
  go_wp2_with fail
  go_ret
  exact ⟨rfl, hW2⟩
end Go.Proofs.YtlbjmpdonnlieaaGreatDoor
