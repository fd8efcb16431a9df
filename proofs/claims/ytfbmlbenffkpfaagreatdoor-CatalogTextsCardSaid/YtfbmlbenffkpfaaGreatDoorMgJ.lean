/- Several texts in one: Ruls0, Ruls1. -/
import Derived.Test.YtfbmlbenffkpfaaGreatDoorShow0
import Derived.Test.YtfbmlbenffkpfaaGreatDoorTree1
import Derived.Test.YtfbmlbenffkpfaaGreatDoorTxt0
import Derived.Test.YtfbmlbenffkpfaaGreatDoorShow1
import Derived.Test.YtfbmlbenffkpfaaGreatDoorMgM
import Derived.Test.YtfbmlbenffkpfaaGreatDoorTail
/- The text of a rule, plain. -/
namespace Go.Proofs.YtfbmlbenffkpfaaGreatDoor
set_option linter.unusedVariables false
set_option maxRecDepth 100000
open Go.RowKit Num

def mL (x : Mon) : List UInt8 := [109, 111, 110, 116, 104, 32] ++ (x.1.data.toList ++ ([32] ++ (Lib.itoa x.2.1 ++ (if x.2.2 = x.2.1 then [] else 32 :: Lib.itoa x.2.2))))
def headL (s : List UInt8) (f c : Int) (t : Tree) : List UInt8 := [99, 97, 108, 101, 110, 100, 97, 114, 32] ++ (s ++ ([10, 101, 112, 111, 99, 104, 32] ++ (Lib.itoa f ++ ([10, 99, 121, 99, 108, 101, 32] ++ (Lib.itoa c ++ ([10, 108, 101, 97, 112, 32] ++ (bodyT t ++ [10])))))))
def rulL (s : List UInt8) (f c : Int) (t : Tree) (ms : List Mon) (k : Nat) : List UInt8 := headL s f c t ++ (ms.take k).flatMap fun x => mL x ++ [10]
def rulS (s : List UInt8) (f c : Int) (t : Tree) (ms : List Mon) : ByteArray := ⟨(rulL s f c t ms ms.length).toArray⟩
theorem months_fit : ∀ (ms : List Mon) (seen : List ByteArray) (a b : Int), monthsGo seen a b ms = 0 → ∀ x ∈ ms, x.1.size ≤ 12
  | [], _, _, _, _, x, hx => by cases hx
  | (s, f, g) :: l, seen, a, b, h, x, hx => by
    rw [monthsGo_cons] at h
    by_cases h1 : isName s = false
    · rw [if_pos h1] at h; cases h
    rw [if_neg h1] at h
    by_cases h2 : (seen.any fun t => t.toList == s.toList) = true
    · rw [if_pos h2] at h; cases h
    rw [if_neg h2] at h
    by_cases h3 : (inB 0 400 f && inB 0 400 g) = false
    · rw [if_pos h3] at h; cases h
    rw [if_neg h3] at h
    rcases List.mem_cons.1 hx with rfl | hx
    · have h1' : isName s = true := by simpa using h1
      unfold isName at h1'; rw [Bool.and_eq_true, Bool.and_eq_true] at h1'
      have : 1 ≤ s.size ∧ s.size ≤ 12 := by simpa using h1'.1.1
      exact this.2
    · exact months_fit l _ _ _ h x hx
theorem rule_fit {s : ByteArray} {f c : Int} {t : Tree} {ms : List Mon} (h : ruleErr s f c t ms = 0) : s.size ≤ 12 ∧ exprErr t = 0 ∧ ms.length ≤ 20 ∧ ∀ x ∈ ms, x.1.size ≤ 12 := by
  unfold ruleErr at h
  by_cases h1 : headErr s f c ≠ 0
  · rw [if_pos h1] at h; exact absurd h h1
  rw [if_neg h1] at h
  by_cases h2 : exprErr t ≠ 0
  · rw [if_pos h2] at h; exact absurd h h2
  rw [if_neg h2] at h
  have h1' : headErr s f c = 0 := by simpa using h1
  have h2' : exprErr t = 0 := by simpa using h2
  have hs : s.size ≤ 12 := by
    unfold headErr at h1'
    by_cases hn : isName s = false
    · rw [if_pos hn] at h1'; cases h1'
    · have hn' : isName s = true := by simpa using hn
      unfold isName at hn'; rw [Bool.and_eq_true, Bool.and_eq_true] at hn'
      have : 1 ≤ s.size ∧ s.size ≤ 12 := by simpa using hn'.1.1
      exact this.2
  unfold monthsErr at h
  by_cases h3 : ¬ (1 ≤ ms.length ∧ ms.length ≤ 20)
  · rw [if_pos h3] at h; cases h
  rw [if_neg h3] at h
  exact ⟨hs, h2', by omega, months_fit ms _ _ _ h⟩
theorem mL_len {x : Mon} (h : x.1.size ≤ 12) (h1 : I64 x.2.1) (h2 : I64 x.2.2) : (mL x).length ≤ 70 := by
  have e := str_len x.1
  have i1 := Lib.itoa_length_le x.2.1 h1.1 h1.2
  have i2 := Lib.itoa_length_le x.2.2 h2.1 h2.2
  unfold mL
  split <;> simp <;> omega
theorem rulL_succ (s : List UInt8) (f c : Int) (t : Tree) (ms : List Mon) (k : Nat) (x : Mon) (h : ms[k]? = some x) : rulL s f c t ms (k + 1) = rulL s f c t ms k ++ (mL x ++ [10]) := by
  unfold rulL
  rw [List.take_add_one, h, List.flatMap_append, List.append_assoc]
  simp
theorem rulL_len {s : List UInt8} {f c : Int} {t : Tree} {ms : List Mon} (hs : s.length ≤ 12) (ht : exprErr t = 0) (hf : I64 f) (hc : I64 c) (hm : ∀ x ∈ ms, x.1.size ≤ 12 ∧ I64 x.2.1 ∧ I64 x.2.2) (k : Nat) : (rulL s f c t ms k).length ≤ 2600 + 71 * k ∧ 1 ≤ (rulL s f c t ms k).length := by
  have hb := body_le ht
  have i1 := Lib.itoa_length_le f hf.1 hf.2
  have i2 := Lib.itoa_length_le c hc.1 hc.2
  have key : ∀ (ys : List Mon), (∀ x ∈ ys, x.1.size ≤ 12 ∧ I64 x.2.1 ∧ I64 x.2.2) → (ys.flatMap fun x => mL x ++ [10]).length ≤ 71 * ys.length := by
    intro ys
    induction ys with
    | nil => intro _; simp
    | cons y r ih =>
      intro hy
      have := ih fun x hx => hy x (by simp [hx])
      obtain ⟨q1, q2, q3⟩ := hy y (by simp)
      have h6 := mL_len q1 q2 q3
      rw [List.flatMap_cons, List.length_append, List.length_append, List.length_cons]
      simp only [List.length_cons, List.length_nil]
      omega
  have hk := key (ms.take k) fun x hx => hm x (List.mem_of_mem_take hx)
  have : (ms.take k).length ≤ k := by rw [List.length_take]; omega
  unfold rulL headL
  simp only [List.length_append, List.length_cons, List.length_nil]
  omega
end Go.Proofs.YtfbmlbenffkpfaaGreatDoor

/- Contract of rule.Print: the text of a rule. -/
namespace Go.Proofs.YtfbmlbenffkpfaaGreatDoor
set_option linter.unusedVariables false
set_option maxRecDepth 100000
open Go.RowKit Go.Shelf Num

/-- The box of the rule, the builder in block b. -/
def PrAt (w : World) (z : Obj) (b : Nat) (l : List UInt8) (W : World) : Prop := w.heap.size < b ∧ At W w.heap.size z ∧ Built b l W ∧ Below w.heap.size w W
theorem PrAt.step {w W W' : World} {z : Obj} {b : Nat} {l : List UInt8} (h : PrAt w z b l W) (hb : Below W.heap.size W W') : PrAt w z b l W' := ⟨h.1, h.2.1.then_ hb, h.2.2.1.below hb, below_then h.2.2.2 hb⟩
theorem PrAt.write {w W W' : World} {z : Obj} {b : Nat} {l l' : List UInt8} (h : PrAt w z b l W) (hw : Built b l' W' ∧ Below b W W') : PrAt w z b l' W' :=
  ⟨h.1, h.2.1.below hw.2 h.1, hw.1, h.2.2.2.trans (hw.2.mono (by have := h.1; omega))⟩
theorem PrAt.bel {w W : World} {z : Obj} {b : Nat} {l : List UInt8} (h : PrAt w z b l W) : Below w.heap.size w W := h.2.2.2
theorem PrAt.drew {w W : World} {z : Obj} {b : Nat} {l : List UInt8} (h : PrAt w z b l W) : PrAt w z b l W.drew := h.step ((Below.refl _ _).drew)
def PrC (w : World) (z : Obj) (b : Nat) (l : List UInt8) (C : Nat) (c : Obj) (W : World) : Prop := PrAt w z b l W ∧ At W C c
theorem PrC.step {w W W' : World} {z c : Obj} {b C : Nat} {l : List UInt8} (h : PrC w z b l C c W) (hb : Below W.heap.size W W') : PrC w z b l C c W' := ⟨h.1.step hb, h.2.then_ hb⟩
theorem PrC.bel {w W : World} {z c : Obj} {b C : Nat} {l : List UInt8} (h : PrC w z b l C c W) : Below w.heap.size w W := h.1.2.2.2
def rprintOut (s : List UInt8) (f c : Int) (t : Tree) (ms : List Mon) : Value := if ruleErr ⟨s.toArray⟩ f c t ms = 0 then .tuple #[.string (rulS s f c t ms), .int .i64 0] else .tuple #[.string ⟨#[]⟩, .int .i64 (ruleErr ⟨s.toArray⟩ f c t ms)]
theorem itoa_c (n : Int) (W : World) (h : I64 n) (ht : Pow W) : Calls Tryz.prog 73 #[.int .i64 n] W fun e w' => e = .returned (.string ⟨(Lib.itoa n).toArray⟩) ∧ Below W.heap.size W w' := lib_Itoa n W h.1 h.2 ht
set_option maxHeartbeats 8000000 in
theorem rule_Print (w : World) (sl : List UInt8) (f c k m : Int) (ks : List Tree) (a1 a2 : Option Addr) (n1 c1 n2 c2 : Nat) (ms : List Mon) (hs : (⟨sl.toArray⟩ : ByteArray).size ≤ 9223372036854775807) (hf : I64 f) (hcc : I64 c) (k1 : n1 ≤ c1) (m1 : c1 ≤ 9223372036854775807) (k2 : n2 ≤ c2)
    (h1 : SubAt w w.heap.size (.node k m ks) a1 n1) (h2 : Months w w.heap.size a2 n2 ms) (ht : Pow w) (hl : Lvl w) (hg : Sgn w) :
    Calls Tryz.prog 45 #[.agg #[.string ⟨sl.toArray⟩, .int .i64 f, .int .i64 c, .int .i64 k, .int .i64 m, .slice a1 n1 c1, .slice a2 n2 c2]] w fun e w' => e = .returned (rprintOut sl f c (.node k m ks) ms) ∧ Below w.heap.size w w' := by
  have LN := Lib.hid h2.len
  have mx := h2.max
  have OKM := Lib.hid h2.2
  have H1 := Lib.hid h1; have H2 := Lib.hid h2; clear h1 h2
  have HT := Lib.hid ht; have HLV := Lib.hid hl; have HSG := Lib.hid hg; clear ht hl hg
  by_cases hz : ruleErr ⟨sl.toArray⟩ f c (.node k m ks) ms = 0
  · obtain ⟨q1, q2, q3, q4⟩ := rule_fit hz
    rw [arr_size] at q1
    rw [LN.out] at q3
    have HR := Lib.hid (show rprintOut sl f c (.node k m ks) ms = .tuple #[.string (rulS sl f c (.node k m ks) ms), .int .i64 0] by unfold rprintOut; rw [if_pos hz])
    have OKT := Lib.hid (exprGo_ok _ 1 0 q2)
    have hbl := body_le q2
    have HZL := Lib.hid (fun k' => rulL_len (s := sl) (f := f) (c := c) (t := .node k m ks) (ms := ms) q1 q2 hf hcc (fun x hx => ⟨q4 x hx, (OKM.out x hx).2.1, (OKM.out x hx).2.2⟩) k')
    have HZ := Lib.hid hz; clear hz
    have Q4 := Lib.hid q4; clear q4
    obtain ⟨I1, hI1⟩ : ∃ I, I = Lib.itoa f := ⟨_, rfl⟩
    obtain ⟨I2, hI2⟩ : ∃ I, I = Lib.itoa c := ⟨_, rfl⟩
    obtain ⟨TB, hTB⟩ : ∃ I, I = bodyT (.node k m ks) := ⟨_, rfl⟩
    have zI1 : I1.length ≤ 21 := by rw [hI1]; exact Lib.itoa_length_le f hf.1 hf.2
    have zI2 : I2.length ≤ 21 := by rw [hI2]; exact Lib.itoa_length_le c hcc.1 hcc.2
    have zTB : TB.length ≤ 2400 := by rw [hTB]; exact hbl
    obtain ⟨HL, hHL⟩ : ∃ I, I = headL sl f c (.node k m ks) := ⟨_, rfl⟩
    have HHL := Lib.hid hHL
    unfold headL at hHL
    rw [← hI1, ← hI2, ← hTB] at hHL
    obtain ⟨T1, hT1⟩ : ∃ T : List UInt8, T = [99, 97, 108, 101, 110, 100, 97, 114, 32] ++ sl := ⟨_, rfl⟩
    have zT1 : T1.length = 9 + sl.length := by rw [hT1, List.length_append] <;> rfl
    have aT1 := add_list [99, 97, 108, 101, 110, 100, 97, 114, 32] sl T1 hT1.symm (by (try simp); omega)
    obtain ⟨T2, hT2⟩ : ∃ T : List UInt8, T = T1 ++ [10, 101, 112, 111, 99, 104, 32] := ⟨_, rfl⟩
    have zT2 : T2.length = T1.length + 7 := by rw [hT2, List.length_append] <;> rfl
    have aT2 := add_list T1 [10, 101, 112, 111, 99, 104, 32] T2 hT2.symm (by (try simp); omega)
    obtain ⟨T3, hT3⟩ : ∃ T : List UInt8, T = T2 ++ I1 := ⟨_, rfl⟩
    have zT3 : T3.length = T2.length + I1.length := by rw [hT3, List.length_append] <;> rfl
    have aT3 := add_list T2 I1 T3 hT3.symm (by (try simp); omega)
    obtain ⟨T4, hT4⟩ : ∃ T : List UInt8, T = T3 ++ [10, 99, 121, 99, 108, 101, 32] := ⟨_, rfl⟩
    have zT4 : T4.length = T3.length + 7 := by rw [hT4, List.length_append] <;> rfl
    have aT4 := add_list T3 [10, 99, 121, 99, 108, 101, 32] T4 hT4.symm (by (try simp); omega)
    obtain ⟨T5, hT5⟩ : ∃ T : List UInt8, T = T4 ++ I2 := ⟨_, rfl⟩
    have zT5 : T5.length = T4.length + I2.length := by rw [hT5, List.length_append] <;> rfl
    have aT5 := add_list T4 I2 T5 hT5.symm (by (try simp); omega)
    obtain ⟨T6, hT6⟩ : ∃ T : List UInt8, T = T5 ++ [10, 108, 101, 97, 112, 32] := ⟨_, rfl⟩
    have zT6 : T6.length = T5.length + 6 := by rw [hT6, List.length_append] <;> rfl
    have aT6 := add_list T5 [10, 108, 101, 97, 112, 32] T6 hT6.symm (by (try simp); omega)
    obtain ⟨T7, hT7⟩ : ∃ T : List UInt8, T = T6 ++ TB := ⟨_, rfl⟩
    have zT7 : T7.length = T6.length + TB.length := by rw [hT7, List.length_append] <;> rfl
    have aT7 := add_list T6 TB T7 hT7.symm (by (try simp); omega)
    have aHL := add_list T7 [10] HL (by rw [hHL, hT7, hT6, hT5, hT4, hT3, hT2, hT1]; simp) (by simp; omega)
    have CI1 := Lib.hid (fun (W : World) (h : Below w.heap.size w W) => (show Calls Tryz.prog 73 #[.int .i64 f] W fun e w' => e = .returned (.string ⟨I1.toArray⟩) ∧ Below W.heap.size W w' from by rw [hI1]; exact itoa_c f W hf (HT.out.below h)))
    have CI2 := Lib.hid (fun (W : World) (h : Below w.heap.size w W) => (show Calls Tryz.prog 73 #[.int .i64 c] W fun e w' => e = .returned (.string ⟨I2.toArray⟩) ∧ Below W.heap.size W w' from by rw [hI2]; exact itoa_c c W hcc (HT.out.below h)))
    have CTB := Lib.hid (fun (W : World) (h : Below w.heap.size w W) => (show Calls Tryz.prog 74 #[.agg #[.int .i64 k, .int .i64 m, .slice a1 n1 c1], .int .i64 0] W fun e w' => e = .returned (.string ⟨TB.toArray⟩) ∧ Below W.heap.size W w' from by
      have h0 := rule_show (.node k m ks) W a1 n1 c1 0 ((H1.out.below h (Nat.le_refl _)).more h.size) OKT.out k1 m1 (by omega) (by omega) hbl (HT.out.below h) (HLV.out.below h) (HSG.out.below h)
      have hp : par 0 k (bodyT (.node k m ks)) = TB := by
        have hk := nodeB_kind' (Tree.ok_node.1 OKT.out).1
        have := (lvl_in hk.1 hk.2).1
        unfold par; rw [if_neg (by omega), hTB]
      unfold ShowPost at h0
      simp only [Tree.kind, Tree.num] at h0
      rw [hp] at h0
      exact h0))
    have zHL : HL.length ≤ 2600 := by have := (HZL.out 0).1; rw [hHL]; simp; omega
    clear hI1 hI2 hTB hHL hT1 hT2 hT3 hT4 hT5 hT6 hT7 zI1 zI2 zTB zT1 zT2 zT3 zT4 zT5 zT6 zT7 hbl
    go_enter Tryz.func45, Tryz.ntmps45
    go_wp2_with fail
    have o0 := One.new w (.cells #[.string ⟨sl.toArray⟩, .int .i64 f, .int .i64 c, .int .i64 k, .int .i64 m, .slice a1 n1 c1, .slice a2 n2 c2] 94)
    generalize World.alloc w _ = W0 at o0 ⊢
    refine (rule_Check _ _ f c k m ks a1 a2 n1 c1 n2 c2 ms hs k1 m1 k2 (H1.out.then_ o0.2) ((H2.out.below o0.2 (Nat.le_refl _)).more o0.2.size)).mono ?_
    rw [HZ.out]
    rintro e w1 ⟨rfl, hb⟩
    have o1 := o0.step hb
    clear o0 hb
    have z0 := o1.1.lt
    have p1 : PrAt w (.cells #[.string ⟨sl.toArray⟩, .int .i64 f, .int .i64 c, .int .i64 k, .int .i64 m, .slice a1 n1 c1, .slice a2 n2 c2] 94) w1.heap.size [] (w1.alloc (.cells #[.pointer none, .slice none 0 0] 117)) := ⟨z0, o1.1.alloc _, Built.new w1, below_new o1.2 _⟩
    have P1 := Lib.hid p1
    clear o1 p1
    go_upto_region 5 with (fail)
    obtain ⟨b, hbz⟩ : ∃ b, b = w1.heap.size := ⟨_, rfl⟩
    rw [← hbz] at P1 ⊢
    generalize World.alloc w1 _ = W1 at P1 ⊢
    clear hbz z0
    have p1 := P1.out
    (refine region_class_tail 19 (PrAt w (.cells #[.string ⟨sl.toArray⟩, .int .i64 f, .int .i64 c, .int .i64 k, .int .i64 m, .slice a1 n1 c1, .slice a2 n2 c2] 94) b []) (by kernel_rfl) (by kernel_rfl) (p1.drew) ?_; simp only [List.take_succ_cons, List.take_zero, List.drop_succ_cons, List.drop_zero]; repeat ((first | (refine class_take ?_ (by rfl) ?_ ?_; rotate_left; focus (intro wq hq; ((have x0 : wq.cell? ⟨w.heap.size, 0, none⟩ = some (.string ⟨sl.toArray⟩) := hq.2.1.cell 0; have x1 : wq.cell? ⟨w.heap.size, 1, none⟩ = some (.int .i64 f) := hq.2.1.cell 1; have x2 : wq.cell? ⟨w.heap.size, 2, none⟩ = some (.int .i64 c) := hq.2.1.cell 2; have x3 : wq.cell? ⟨w.heap.size, 3, none⟩ = some (.int .i64 k) := hq.2.1.cell 3; have x4 : wq.cell? ⟨w.heap.size, 4, none⟩ = some (.int .i64 m) := hq.2.1.cell 4; have x5 : wq.cell? ⟨w.heap.size, 5, none⟩ = some (.slice a1 n1 c1) := hq.2.1.cell 5)); go_simp; first | done | with_reducible rfl | ((first | (go_at_call 74; (with_reducible refine (CTB.out _ hq.bel).mono ?_); rintro e w' ⟨rfl, hb⟩; refine ⟨?_, hq.step hb⟩; with_reducible rfl) | (go_at_call 73; (first | (with_reducible refine (CI1.out _ hq.bel).mono ?_) | (with_reducible refine (CI2.out _ hq.bel).mono ?_)); rintro e w' ⟨rfl, hb⟩; refine ⟨?_, hq.step hb⟩; with_reducible rfl))))) | refine class_skip (by rfl) ?_); try simp only [Act.put, List.setIfInBounds_toArray, List.set_cons_zero, List.set_cons_succ]))
    refine wpQuiet_nil ?_
    intro W2 hW2
    clear p1 P1
    have P2 := Lib.hid hW2; clear hW2 aT1 aT2 aT3 aT4 aT5 aT6 aT7 aHL
    go_wp2_with fail
    refine (lib_WriteString b [] _ _ P2.out.2.2.1 (by rw [arr_size]; simp; omega)).mono ?_
    rintro e W3 ⟨rfl, hw⟩
    have p3 : PrAt w (.cells #[.string ⟨sl.toArray⟩, .int .i64 f, .int .i64 c, .int .i64 k, .int .i64 m, .slice a1 n1 c1, .slice a2 n2 c2] 94) b (rulL sl f c (.node k m ks) ms 0) W3 := by
      have h0 := P2.out.write hw
      have e0 : rulL sl f c (.node k m ks) ms 0 = HL := by rw [HHL.out]; simp [rulL]
      rw [e0]
      simpa using h0
    clear hw P2
    have y2 : W3.cell? ⟨w.heap.size, 6, none⟩ = some (.slice a2 n2 c2) := p3.2.1.cell 6
    have P3 := Lib.hid p3; clear p3
    go_wp2_with fail
    clear y2
    go_loopw [36] (fun i wr => ∃ j : Nat, j ≤ n2 ∧ i = .int .i64 j ∧ PrAt w (.cells #[.string ⟨sl.toArray⟩, .int .i64 f, .int .i64 c, .int .i64 k, .int .i64 m, .slice a1 n1 c1, .slice a2 n2 c2] 94) b (rulL sl f c (.node k m ks) ms j) wr) (fun i _ => n2 - (intOf i).toNat)
    case atStart => exact ⟨0, by omega, rfl, P3.out⟩
    case round =>
      clear P3
      obtain ⟨j, hj, rfl, hp⟩ := hrel
      obtain ⟨hl1, hl2⟩ := HZL.out j
      by_cases hlt : j < n2
      · obtain ⟨b0, off, rfl, hbB, hcs⟩ := (H2.out.below hp.2.2.2 (Nat.le_refl _)).open_ (by omega)
        obtain ⟨nm, p, q, hc0, hc1, hc2, hx, g0, g1, g2, g3, g4⟩ := hcs j hlt
        have hnm := Q4.out _ (List.mem_of_getElem? hx)
        obtain ⟨nl, rfl⟩ : ∃ l, nm = ⟨l.toArray⟩ := ⟨nm.data.toList, (str_eta nm).symm⟩
        simp only [] at hnm
        rw [arr_size] at hnm
        have HS := Lib.hid (rulL_succ sl f c (.node k m ks) ms j _ hx)
        clear hcs hx
        have hzw := hp.2.2.2.size
        have hbz : b0 < wr.heap.size := by omega
        have HP := Lib.hid hp; clear hp
        obtain ⟨J1, hJ1⟩ : ∃ I, I = Lib.itoa p := ⟨_, rfl⟩
        obtain ⟨J2, hJ2⟩ : ∃ I, I = Lib.itoa q := ⟨_, rfl⟩
        have zJ1 : J1.length ≤ 21 := by rw [hJ1]; exact Lib.itoa_length_le p g1 g2
        have zJ2 : J2.length ≤ 21 := by rw [hJ2]; exact Lib.itoa_length_le q g3 g4
        have CJ1 := Lib.hid (fun (W : World) (h : Below w.heap.size w W) => (show Calls Tryz.prog 73 #[.int .i64 p] W fun e w' => e = .returned (.string ⟨J1.toArray⟩) ∧ Below W.heap.size W w' from by rw [hJ1]; exact itoa_c p W ⟨g1, g2⟩ (HT.out.below h)))
        have CJ2 := Lib.hid (fun (W : World) (h : Below w.heap.size w W) => (show Calls Tryz.prog 73 #[.int .i64 q] W fun e w' => e = .returned (.string ⟨J2.toArray⟩) ∧ Below W.heap.size W w' from by rw [hJ2]; exact itoa_c q W ⟨g3, g4⟩ (HT.out.below h)))
        have hml : mL (⟨nl.toArray⟩, p, q) = [109, 111, 110, 116, 104, 32] ++ (nl ++ ([32] ++ (J1 ++ (if q = p then [] else 32 :: J2)))) := by unfold mL; rw [hJ1, hJ2]
        have HML := Lib.hid hml
        clear hJ1 hJ2 hml
        obtain ⟨M1, hM1⟩ : ∃ T : List UInt8, T = [109, 111, 110, 116, 104, 32] ++ nl := ⟨_, rfl⟩
        have zM1 : M1.length = 6 + nl.length := by rw [hM1, List.length_append] <;> rfl
        have aM1 := add_list [109, 111, 110, 116, 104, 32] nl M1 hM1.symm (by (try simp); omega)
        obtain ⟨M2, hM2⟩ : ∃ T : List UInt8, T = M1 ++ [32] := ⟨_, rfl⟩
        have zM2 : M2.length = M1.length + 1 := by rw [hM2, List.length_append] <;> rfl
        have aM2 := add_list M1 [32] M2 hM2.symm (by (try simp); omega)
        obtain ⟨M3, hM3⟩ : ∃ T : List UInt8, T = M2 ++ J1 := ⟨_, rfl⟩
        have zM3 : M3.length = M2.length + J1.length := by rw [hM3, List.length_append] <;> rfl
        have aM3 := add_list M2 J1 M3 hM3.symm (by (try simp); omega)
        have aS := add_list [32] J2 (32 :: J2) rfl (by simp; omega)
        have HM3 := Lib.hid (show M3 = [109, 111, 110, 116, 104, 32] ++ (nl ++ ([32] ++ J1)) by rw [hM3, hM2, hM1]; simp)
        have zM : M3.length ≤ 60 := by omega
        clear hM1 hM2 hM3 zM1 zM2 zM3
        go_wp2_with fail
        have pc : PrC w (.cells #[.string ⟨sl.toArray⟩, .int .i64 f, .int .i64 c, .int .i64 k, .int .i64 m, .slice a1 n1 c1, .slice (some ⟨b0, off, none⟩) n2 c2] 94) b (rulL sl f c (.node k m ks) ms j) wr.heap.size (.cells #[.string ⟨nl.toArray⟩, .int .i64 p, .int .i64 q] 103) (wr.alloc (.cells #[.string ⟨nl.toArray⟩, .int .i64 p, .int .i64 q] 103)) := ⟨HP.out.step (below_new (Below.refl _ _) _), At.new _ _⟩
        have HPC := Lib.hid pc; clear pc
        go_upto_region 9 with (fail)
        generalize World.alloc wr _ = W4 at HPC ⊢
        obtain ⟨C, hC⟩ : ∃ C, C = wr.heap.size := ⟨_, rfl⟩
        rw [← hC] at HPC ⊢
        have HCB := Lib.hid (show C ≠ b by have := HP.out.2.2.1.lt; omega)
        clear hC hbz hzw hc0 hc1 hc2
        have pc5 := HPC.out
        (refine region_class_tail 8 (PrC w (.cells #[.string ⟨sl.toArray⟩, .int .i64 f, .int .i64 c, .int .i64 k, .int .i64 m, .slice a1 n1 c1, .slice (some ⟨b0, off, none⟩) n2 c2] 94) b (rulL sl f c (.node k m ks) ms j) C (.cells #[.string ⟨nl.toArray⟩, .int .i64 p, .int .i64 q] 103)) (by kernel_rfl) (by kernel_rfl) (pc5.step (Below.refl _ _).drew) ?_; simp only [List.take_succ_cons, List.take_zero, List.drop_succ_cons, List.drop_zero]; repeat ((first | (refine class_take ?_ (by rfl) ?_ ?_; rotate_left; focus (intro wq hq; ((have x0 : wq.cell? ⟨C, 0, none⟩ = some (.string ⟨nl.toArray⟩) := hq.2.cell 0; have x1 : wq.cell? ⟨C, 1, none⟩ = some (.int .i64 p) := hq.2.cell 1)); go_simp; first | done | with_reducible rfl | ((go_at_call 73; (with_reducible refine (CJ1.out _ hq.bel).mono ?_); rintro e w' ⟨rfl, hb⟩; refine ⟨?_, hq.step hb⟩; with_reducible rfl)))) | refine class_skip (by rfl) ?_); try simp only [Act.put, List.setIfInBounds_toArray, List.set_cons_zero, List.set_cons_succ]))
        refine wpQuiet_nil ?_
        intro W6 hW6
        clear pc5 HPC
        have P6 := Lib.hid hW6; clear hW6
        have hcb : C ≠ b := HCB.out
        have P6l := P6.out.1.2.2.1
        go_wp2_with fail
        refine (lib_WriteStringK b _ _ _ P6.out.1.2.2.1 (by rw [arr_size]; omega)).mono ?_
        rintro e W7 ⟨rfl, hw, hok⟩
        have p7 : PrC w (.cells #[.string ⟨sl.toArray⟩, .int .i64 f, .int .i64 c, .int .i64 k, .int .i64 m, .slice a1 n1 c1, .slice (some ⟨b0, off, none⟩) n2 c2] 94) b (rulL sl f c (.node k m ks) ms j ++ M3) C (.cells #[.string ⟨nl.toArray⟩, .int .i64 p, .int .i64 q] 103) W7 := ⟨P6.out.1.write hw, P6.out.2.others hok hcb (by decide)⟩
        clear hw hok P6l
        have y1 : W7.cell? ⟨C, 1, none⟩ = some (.int .i64 p) := p7.2.cell 1
        have y2 : W7.cell? ⟨C, 2, none⟩ = some (.int .i64 q) := p7.2.cell 2
        have P7 := Lib.hid p7; clear p7 P6
        by_cases hpq : q = p
        · have HE : rulL sl f c (.node k m ks) ms (j + 1) = (rulL sl f c (.node k m ks) ms j ++ M3) ++ [10] := by rw [HS.out, HML.out, if_pos hpq, HM3.out]; simp
          have HE := Lib.hid HE
          have d1 : (q != p) = false := by simpa using hpq
          clear hpq
          go_wp2_with fail
          refine (lib_WriteString b _ _ _ P7.out.1.2.2.1 (by rw [List.length_append]; have : (⟨#[10]⟩ : ByteArray).size = 1 := rfl; omega)).mono ?_
          rintro e W8 ⟨rfl, hw⟩
          have p8 : PrAt w (.cells #[.string ⟨sl.toArray⟩, .int .i64 f, .int .i64 c, .int .i64 k, .int .i64 m, .slice a1 n1 c1, .slice (some ⟨b0, off, none⟩) n2 c2] 94) b (rulL sl f c (.node k m ks) ms (j + 1)) W8 := by rw [HE.out]; exact P7.out.1.write hw
          have P8 := Lib.hid p8
          clear hw P7 p8 y1 y2 d1 aM1 aM2 aM3 aS
          go_wp2_with fail
          go_roundw
          case rel => exact ⟨j + 1, by omega, by go_num, P8.out⟩
          case measure => simp [intOf]; omega
        · have HE : rulL sl f c (.node k m ks) ms (j + 1) = ((rulL sl f c (.node k m ks) ms j ++ M3) ++ (32 :: J2)) ++ [10] := by rw [HS.out, HML.out, if_neg hpq, HM3.out]; simp
          have HE := Lib.hid HE
          have d1 : (q != p) = true := by simpa using hpq
          clear hpq
          go_wp2_with fail
          refine (CJ2.out _ P7.out.bel).mono ?_
          rintro e W8 ⟨rfl, hb⟩
          have P8 := Lib.hid (P7.out.1.step hb)
          clear hb P7
          go_wp2_with fail
          refine (lib_WriteString b _ _ _ P8.out.2.2.1 (by rw [List.length_append, arr_size]; simp; omega)).mono ?_
          rintro e W9 ⟨rfl, hw⟩
          have P9 := Lib.hid (P8.out.write hw)
          clear hw P8
          go_wp2_with fail
          refine (lib_WriteString b _ _ _ P9.out.2.2.1 (by rw [List.length_append, List.length_append]; have : (⟨#[10]⟩ : ByteArray).size = 1 := rfl; simp; omega)).mono ?_
          rintro e W10 ⟨rfl, hw⟩
          have p10 : PrAt w (.cells #[.string ⟨sl.toArray⟩, .int .i64 f, .int .i64 c, .int .i64 k, .int .i64 m, .slice a1 n1 c1, .slice (some ⟨b0, off, none⟩) n2 c2] 94) b (rulL sl f c (.node k m ks) ms (j + 1)) W10 := by rw [HE.out]; exact P9.out.write hw
          have P10 := Lib.hid p10
          clear hw P9 p10 y1 y2 d1 aM1 aM2 aM3 aS
          go_wp2_with fail
          go_roundw
          case rel => exact ⟨j + 1, by omega, by go_num, P10.out⟩
          case measure => simp [intOf]; omega
      · obtain rfl : j = n2 := by omega
        have hne : rulL sl f c (.node k m ks) ms j ≠ [] := by intro h0; rw [h0] at hl2; simp at hl2
        have HP := Lib.hid hp; clear hp
        go_wp2_with fail
        refine (lib_String b _ _ HP.out.2.2.1 hne).mono ?_
        rintro e W4 ⟨rfl, hb⟩
        have HB := Lib.hid (HP.out.2.2.2.trans (hb.mono (by have := HP.out.1; omega))); clear hb
        go_wp2_with fail
        go_ret2
        exact ⟨by rw [HR.out, rulS, LN.out]; rfl, HB.out⟩
  · have HR := Lib.hid (show rprintOut sl f c (.node k m ks) ms = .tuple #[.string ⟨#[]⟩, .int .i64 (ruleErr ⟨sl.toArray⟩ f c (.node k m ks) ms)] by unfold rprintOut; rw [if_neg hz])
    obtain ⟨E, hE⟩ : ∃ E, E = ruleErr ⟨sl.toArray⟩ f c (.node k m ks) ms := ⟨_, rfl⟩
    have hz' : (E != 0) = true := by rw [hE]; simpa using hz
    rw [← hE] at HR
    have HE := Lib.hid hE; clear hE hz
    go_enter Tryz.func45, Tryz.ntmps45
    go_wp2_with fail
    have o0 := One.new w (.cells #[.string ⟨sl.toArray⟩, .int .i64 f, .int .i64 c, .int .i64 k, .int .i64 m, .slice a1 n1 c1, .slice a2 n2 c2] 94)
    generalize World.alloc w _ = W0 at o0 ⊢
    refine (rule_Check _ _ f c k m ks a1 a2 n1 c1 n2 c2 ms hs k1 m1 k2 (H1.out.then_ o0.2) ((H2.out.below o0.2 (Nat.le_refl _)).more o0.2.size)).mono ?_
    rw [← HE.out]
    rintro e w1 ⟨rfl, hb⟩
    have O1 := Lib.hid (o0.step hb)
    clear o0 hb
    go_wp2_with fail
    go_ret2
    exact ⟨by rw [HR.out]; rfl, O1.out.2⟩

end Go.Proofs.YtfbmlbenffkpfaaGreatDoor
