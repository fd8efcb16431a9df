/- Contract of the reference's RuleText at a rule in order. -/
import Derived.Test.YtjjmbnflhldoeabDoorRuls1
import Derived.Test.YtjjmbnflhldoeabDoorShow2
import Derived.Test.YtjjmbnflhldoeabDoorStrs
import Derived.Test.YtjjmbnflhldoeabDoorLayJoin
import Derived.Shelf.Strings.OnBuilder
namespace Go.Proofs.YtjjmbnflhldoeabDoor
set_option linter.unusedVariables false
set_option maxRecDepth 100000
open Go.RowKit Go.Shelf Num

theorem extraJ : Builder.Extra Tryd.prog Tryd.laysn156_ren where
  sizeBuilder := by kernel_rfl
  liesBuilder := by kernel_rfl
  t5 := Tryd.underlying5
  a5 := Tryd.isAgg5
  z5 := Tryd.sizeOf5
  v5 := Tryd.zeroValue5
  infoByte := by kernel_rfl
  cellsByte := by kernel_rfl
  sizeByte := by kernel_rfl
  neB5 := by decide
/-- The lines of a rule. -/
def linesOf (s : List UInt8) (f c : Int) (t : Tree) (ms : List Mon) (k : Nat) : List (List UInt8) := [[99, 97, 108, 101, 110, 100, 97, 114, 32] ++ s, [101, 112, 111, 99, 104, 32] ++ Lib.itoa f, [99, 121, 99, 108, 101, 32] ++ Lib.itoa c, [108, 101, 97, 112, 32] ++ bodyT t] ++ (ms.take k).map mL
theorem join_nl (x : List UInt8) (r : List (List UInt8)) : Lib.join (x :: r) [10] ++ [10] = (x :: r).flatMap (· ++ [10]) := by
  have key : ∀ (r : List (List UInt8)) (x : List UInt8), Lib.join (x :: r) [10] ++ [10] = (x :: r).flatMap (· ++ [10]) := by
    intro r
    induction r with
    | nil => intro x; rw [Lib.join_one]; simp
    | cons y r ih =>
      intro x
      have e : Lib.join (x :: y :: r) [10] = x ++ ([10] ++ Lib.join (y :: r) [10]) := by simp [Lib.join, List.intercalate]
      rw [e, List.flatMap_cons, ← ih y]
      simp
  exact key r x
theorem lines_text (s : List UInt8) (f c : Int) (t : Tree) (ms : List Mon) (k : Nat) : Lib.join (linesOf s f c t ms k) [10] ++ [10] = rulL s f c t ms k := by
  unfold linesOf
  rw [List.cons_append, join_nl]
  unfold rulL headL
  simp only [List.flatMap_cons, List.flatMap_append, List.flatMap_nil, List.flatMap_map]
  simp
theorem lines_succ {s : List UInt8} {f c : Int} {t : Tree} {ms : List Mon} {k : Nat} {x : Mon} (h : ms[k]? = some x) : linesOf s f c t ms (k + 1) = linesOf s f c t ms k ++ [mL x] := by
  unfold linesOf
  rw [List.take_add_one, h]
  simp
theorem lines_len (s : List UInt8) (f c : Int) (t : Tree) (ms : List Mon) (k : Nat) (h : k ≤ ms.length) : (linesOf s f c t ms k).length = 4 + k := by
  unfold linesOf
  simp [List.length_take]; omega
def RtC (w : World) (z : Obj) (C : Nat) (c : Obj) (W : World) : Prop := One w z W ∧ At W C c
theorem RtC.step {w W W' : World} {z c : Obj} {C : Nat} (h : RtC w z C c W) (hb : Below W.heap.size W W') : RtC w z C c W' := ⟨h.1.step hb, h.2.then_ hb⟩
theorem RtC.bel {w W : World} {z c : Obj} {C : Nat} (h : RtC w z C c W) : Below w.heap.size w W := h.1.2
set_option maxHeartbeats 8000000 in
theorem ref_RuleText (w : World) (sl : List UInt8) (f c k m : Int) (ks : List Tree) (a1 a2 : Option Addr) (n1 c1 n2 c2 : Nat) (ms : List Mon) (hf : I64 f) (hcc : I64 c) (k1 : n1 ≤ c1) (m1 : c1 ≤ 9223372036854775807)
    (h1 : SubAt w w.heap.size (.node k m ks) a1 n1) (h2 : Months w w.heap.size a2 n2 ms) (ht : Pow w) (hz : ruleErr ⟨sl.toArray⟩ f c (.node k m ks) ms = 0) :
    Calls Tryd.prog 12 #[.agg #[.string ⟨sl.toArray⟩, .int .i64 f, .int .i64 c, .int .i64 k, .int .i64 m, .slice a1 n1 c1, .slice a2 n2 c2]] w fun e w' => e = .returned (.string (rulS sl f c (.node k m ks) ms)) ∧ Below w.heap.size w w' := by
  obtain ⟨i0, hi, hz0, hz1, hz2⟩ := info_parts infoStr
  have LN := Lib.hid h2.len
  have mx := h2.max
  have OKM := Lib.hid h2.2
  have H1 := Lib.hid h1; have H2 := Lib.hid h2; clear h1 h2
  have HT := Lib.hid ht; clear ht
  obtain ⟨q1, q2, q3, q4⟩ := rule_fit hz
  rw [arr_size] at q1
  rw [LN.out] at q3
  have OKT := Lib.hid (exprGo_ok _ 1 0 q2)
  have hbl := body_le q2
  have HZL := Lib.hid (fun k' => rulL_len (s := sl) (f := f) (c := c) (t := .node k m ks) (ms := ms) q1 q2 hf hcc (fun x hx => ⟨q4 x hx, (OKM.out x hx).2.1, (OKM.out x hx).2.2⟩) k')
  clear hz
  have Q4 := Lib.hid q4; clear q4
  obtain ⟨I1, hI1⟩ : ∃ I, I = Lib.itoa f := ⟨_, rfl⟩
  obtain ⟨I2, hI2⟩ : ∃ I, I = Lib.itoa c := ⟨_, rfl⟩
  obtain ⟨TB, hTB⟩ : ∃ I, I = bodyT (.node k m ks) := ⟨_, rfl⟩
  have zI1 : I1.length ≤ 21 := by rw [hI1]; exact Lib.itoa_length_le f hf.1 hf.2
  have zI2 : I2.length ≤ 21 := by rw [hI2]; exact Lib.itoa_length_le c hcc.1 hcc.2
  have zTB : TB.length ≤ 2400 := by rw [hTB]; exact hbl
  obtain ⟨L1, hL1⟩ : ∃ I, I = [99, 97, 108, 101, 110, 100, 97, 114, 32] ++ sl := ⟨_, rfl⟩
  obtain ⟨L2, hL2⟩ : ∃ I, I = [101, 112, 111, 99, 104, 32] ++ I1 := ⟨_, rfl⟩
  obtain ⟨L3, hL3⟩ : ∃ I, I = [99, 121, 99, 108, 101, 32] ++ I2 := ⟨_, rfl⟩
  obtain ⟨L4, hL4⟩ : ∃ I, I = [108, 101, 97, 112, 32] ++ TB := ⟨_, rfl⟩
  have aL1 := add_list [99, 97, 108, 101, 110, 100, 97, 114, 32] sl L1 hL1.symm (by simp; omega)
  have aL2 := add_list [101, 112, 111, 99, 104, 32] I1 L2 hL2.symm (by simp; omega)
  have aL3 := add_list [99, 121, 99, 108, 101, 32] I2 L3 hL3.symm (by simp; omega)
  have aL4 := add_list [108, 101, 97, 112, 32] TB L4 hL4.symm (by simp; omega)
  have HL0 := Lib.hid (show linesOf sl f c (.node k m ks) ms 0 = [L1, L2, L3, L4] by unfold linesOf; rw [hL1, hL2, hL3, hL4, hI1, hI2, hTB]; rfl)
  have CI1 := Lib.hid (fun (W : World) (h : One w (.cells #[.string ⟨sl.toArray⟩, .int .i64 f, .int .i64 c, .int .i64 k, .int .i64 m, .slice a1 n1 c1, .slice a2 n2 c2] 36) W) => (show Calls Tryd.prog 27 #[.int .i64 f] W fun e w' => e = .returned (.string ⟨I1.toArray⟩) ∧ Below W.heap.size W w' from by rw [hI1]; exact itoa_c f W hf (HT.out.below h.2)))
  have CI2 := Lib.hid (fun (W : World) (h : One w (.cells #[.string ⟨sl.toArray⟩, .int .i64 f, .int .i64 c, .int .i64 k, .int .i64 m, .slice a1 n1 c1, .slice a2 n2 c2] 36) W) => (show Calls Tryd.prog 27 #[.int .i64 c] W fun e w' => e = .returned (.string ⟨I2.toArray⟩) ∧ Below W.heap.size W w' from by rw [hI2]; exact itoa_c c W hcc (HT.out.below h.2)))
  have CTB := Lib.hid (fun (W : World) (h : One w (.cells #[.string ⟨sl.toArray⟩, .int .i64 f, .int .i64 c, .int .i64 k, .int .i64 m, .slice a1 n1 c1, .slice a2 n2 c2] 36) W) => (show Calls Tryd.prog 32 #[.agg #[.int .i64 k, .int .i64 m, .slice a1 n1 c1]] W fun e w' => e = .returned (.string ⟨TB.toArray⟩) ∧ Below W.heap.size W w' from by
    rw [hTB]
    exact ref_ExprText (.node k m ks) W a1 n1 c1 ((H1.out.below h.2 (Nat.le_refl _)).more h.2.size) OKT.out k1 m1 hbl (HT.out.below h.2)))
  have O0 := Lib.hid (One.new w (.cells #[.string ⟨sl.toArray⟩, .int .i64 f, .int .i64 c, .int .i64 k, .int .i64 m, .slice a1 n1 c1, .slice a2 n2 c2] 36))
  clear hL1 hL2 hL3 hL4 hI1 hI2 hTB zI1 zI2 zTB hbl
  go_enter Tryd.func12, Tryd.ntmps12
  go_upto_region 1 with (fail)
  have o0 := O0.out
  (refine region_class_tail 15 (One w (.cells #[.string ⟨sl.toArray⟩, .int .i64 f, .int .i64 c, .int .i64 k, .int .i64 m, .slice a1 n1 c1, .slice a2 n2 c2] 36)) (by kernel_rfl) (by kernel_rfl) (o0.drew) ?_; simp only [List.take_succ_cons, List.take_zero, List.drop_succ_cons, List.drop_zero]; repeat ((first | (refine class_take ?_ (by rfl) ?_ ?_; rotate_left; focus (intro wq hq; ((have x0 : wq.cell? ⟨w.heap.size, 0, none⟩ = some (.string ⟨sl.toArray⟩) := hq.1.cell 0; have x1 : wq.cell? ⟨w.heap.size, 1, none⟩ = some (.int .i64 f) := hq.1.cell 1; have x2 : wq.cell? ⟨w.heap.size, 2, none⟩ = some (.int .i64 c) := hq.1.cell 2; have x3 : wq.cell? ⟨w.heap.size, 3, none⟩ = some (.int .i64 k) := hq.1.cell 3; have x4 : wq.cell? ⟨w.heap.size, 4, none⟩ = some (.int .i64 m) := hq.1.cell 4; have x5 : wq.cell? ⟨w.heap.size, 5, none⟩ = some (.slice a1 n1 c1) := hq.1.cell 5)); go_simp; first | done | with_reducible rfl | ((first | (go_at_call 32; (with_reducible refine (CTB.out _ hq).mono ?_); rintro e w' ⟨rfl, hb⟩; refine ⟨?_, hq.step hb⟩; with_reducible rfl) | (go_at_call 27; (first | (with_reducible refine (CI1.out _ hq).mono ?_) | (with_reducible refine (CI2.out _ hq).mono ?_)); rintro e w' ⟨rfl, hb⟩; refine ⟨?_, hq.step hb⟩; with_reducible rfl))))) | refine class_skip (by rfl) ?_); try simp only [Act.put, List.setIfInBounds_toArray, List.set_cons_zero, List.set_cons_succ]))
  refine wpQuiet_nil ?_
  intro W2 hW2
  clear o0 O0 aL1 aL2 aL3 aL4
  have y6 : W2.cell? ⟨w.heap.size, 6, none⟩ = some (.slice a2 n2 c2) := hW2.1.cell 6
  have z2 := hW2.1.lt
  have own0 : (W2.alloc (.cells #[.string ⟨L1.toArray⟩, .string ⟨L2.toArray⟩, .string ⟨L3.toArray⟩, .string ⟨L4.toArray⟩] 9)).ownsRow (w.heap.size + 1) 9 1 (.slice (some ⟨W2.heap.size, 0, none⟩) 4 4) 4 [.string ⟨L1.toArray⟩, .string ⟨L2.toArray⟩, .string ⟨L3.toArray⟩, .string ⟨L4.toArray⟩] :=
    ⟨rfl, .inr ⟨W2.heap.size, 4, _, rfl, by omega, At.new W2 _, by omega, by unfold maxLen; omega, rfl, rfl⟩⟩
  have OWN0 := Lib.hid own0; clear own0
  have O2 := Lib.hid (hW2.alloc (.cells #[.string ⟨L1.toArray⟩, .string ⟨L2.toArray⟩, .string ⟨L3.toArray⟩, .string ⟨L4.toArray⟩] 9)); clear hW2
  go_wp2_with fail
  clear y6 z2
  go_loopw [3, 6, 26] (fun v _ i wr => ∃ j : Nat, j ≤ n2 ∧ i = .int .i64 j ∧ wr.ownsRow (w.heap.size + 1) 9 1 v (4 + j) ((linesOf sl f c (.node k m ks) ms j).map strV) ∧ One w (.cells #[.string ⟨sl.toArray⟩, .int .i64 f, .int .i64 c, .int .i64 k, .int .i64 m, .slice a1 n1 c1, .slice a2 n2 c2] 36) wr) (fun _ _ i _ => n2 - (intOf i).toNat)
  case atStart => exact ⟨0, by omega, rfl, by rw [HL0.out]; exact OWN0.out, O2.out⟩
  case round =>
    clear O2 OWN0
    obtain ⟨j, hj, rfl, hown, hp⟩ := hrel
    have OWN := Lib.hid hown; clear hown
    by_cases hlt : j < n2
    · obtain ⟨b0, off, rfl, hbB, hcs⟩ := (H2.out.below hp.2 (Nat.le_refl _)).open_ (by omega)
      obtain ⟨nm, p, q, hc0, hc1, hc2, hx, g0, g1, g2, g3, g4⟩ := hcs j hlt
      have hnm := Q4.out _ (List.mem_of_getElem? hx)
      obtain ⟨nl, rfl⟩ : ∃ l, nm = ⟨l.toArray⟩ := ⟨nm.data.toList, (str_eta nm).symm⟩
      simp only [] at hnm
      rw [arr_size] at hnm
      have HS := Lib.hid (lines_succ (s := sl) (f := f) (c := c) (t := .node k m ks) hx)
      clear hcs hx
      have hzw := hp.2.size
      have hbz : b0 < wr.heap.size := by omega
      have HP := Lib.hid hp; clear hp
      obtain ⟨J1, hJ1⟩ : ∃ I, I = Lib.itoa p := ⟨_, rfl⟩
      obtain ⟨J2, hJ2⟩ : ∃ I, I = Lib.itoa q := ⟨_, rfl⟩
      have zJ1 : J1.length ≤ 21 := by rw [hJ1]; exact Lib.itoa_length_le p g1 g2
      have zJ2 : J2.length ≤ 21 := by rw [hJ2]; exact Lib.itoa_length_le q g3 g4
      have CJ1 := Lib.hid (fun (W : World) (h : Below w.heap.size w W) => (show Calls Tryd.prog 27 #[.int .i64 p] W fun e w' => e = .returned (.string ⟨J1.toArray⟩) ∧ Below W.heap.size W w' from by rw [hJ1]; exact itoa_c p W ⟨g1, g2⟩ (HT.out.below h)))
      have CJ2 := Lib.hid (fun (W : World) (h : Below w.heap.size w W) => (show Calls Tryd.prog 27 #[.int .i64 q] W fun e w' => e = .returned (.string ⟨J2.toArray⟩) ∧ Below W.heap.size W w' from by rw [hJ2]; exact itoa_c q W ⟨g3, g4⟩ (HT.out.below h)))
      have hml : mL (⟨nl.toArray⟩, p, q) = [109, 111, 110, 116, 104, 32] ++ (nl ++ ([32] ++ (J1 ++ (if q = p then [] else 32 :: J2)))) := by unfold mL; rw [hJ1, hJ2]
      have HML := Lib.hid hml
      clear hJ1 hJ2 hml
      obtain ⟨M1, hM1⟩ : ∃ T : List UInt8, T = [109, 111, 110, 116, 104, 32] ++ nl := ⟨_, rfl⟩
      have zM1 : M1.length = 6 + nl.length := by rw [hM1, List.length_append] <;> rfl
      have aM1 := add_list [109, 111, 110, 116, 104, 32] nl M1 hM1.symm (by (try simp); omega)
      obtain ⟨M2, hM2⟩ : ∃ T : List UInt8, T = M1 ++ [32] := ⟨_, rfl⟩
      have zM2 : M2.length = M1.length + 1 := by rw [hM2, List.length_append] <;> rfl
      have aM2 := add_list M1 [32] M2 hM2.symm (by (try simp); omega)
      obtain ⟨M3, hM3⟩ : ∃ T : List UInt8, T = M2 ++ J1 := ⟨_, rfl⟩
      have zM3 : M3.length = M2.length + J1.length := by rw [hM3, List.length_append] <;> rfl
      have aM3 := add_list M2 J1 M3 hM3.symm (by (try simp); omega)
      obtain ⟨S2, hS2⟩ : ∃ S, S = 32 :: J2 := ⟨_, rfl⟩
      obtain ⟨M4, hM4⟩ : ∃ M, M = M3 ++ S2 := ⟨_, rfl⟩
      have zS2 : S2.length = J2.length + 1 := by rw [hS2]; rfl
      have aS := add_list [32] J2 S2 hS2.symm (by simp; omega)
      have aM4 := add_list M3 S2 M4 hM4.symm (by omega)
      have HM3 := Lib.hid (show M3 = [109, 111, 110, 116, 104, 32] ++ (nl ++ ([32] ++ J1)) by rw [hM3, hM2, hM1]; simp)
      have HM4 := Lib.hid (show M4 = M3 ++ (32 :: J2) by rw [hM4, hS2])
      clear hM1 hM2 hM3 hM4 hS2 zM1 zM2 zM3 zS2 zJ1 zJ2
      have pc : RtC w (.cells #[.string ⟨sl.toArray⟩, .int .i64 f, .int .i64 c, .int .i64 k, .int .i64 m, .slice a1 n1 c1, .slice (some ⟨b0, off, none⟩) n2 c2] 36) wr.heap.size (.cells #[.string ⟨nl.toArray⟩, .int .i64 p, .int .i64 q] 69) (wr.alloc (.cells #[.string ⟨nl.toArray⟩, .int .i64 p, .int .i64 q] 69)) := ⟨HP.out.alloc _, At.new _ _⟩
      have HPC := Lib.hid pc; clear pc
      have OW4 := Lib.hid (OWN.out.alloc (.cells #[.string ⟨nl.toArray⟩, .int .i64 p, .int .i64 q] 69))
      go_upto_region 5 with (fail)
      generalize World.alloc wr _ = W4 at HPC OW4 ⊢
      obtain ⟨C, hC⟩ : ∃ C, C = wr.heap.size := ⟨_, rfl⟩
      rw [← hC] at HPC ⊢
      clear hC hbz hzw hc0 hc1 hc2 HP OWN
      have pc5 := HPC.out
      (refine region_class (Below W4.heap.size W4) (by kernel_rfl) (by kernel_rfl) ((Below.refl _ _).drew) ?_; repeat ((first | (refine class_take ?_ (by rfl) ?_ ?_; rotate_left; focus (intro wq hq; ((have r4 := HPC.out.step hq; have x0 : wq.cell? ⟨C, 0, none⟩ = some (.string ⟨nl.toArray⟩) := r4.2.cell 0; have x1 : wq.cell? ⟨C, 1, none⟩ = some (.int .i64 p) := r4.2.cell 1)); go_simp; first | done | with_reducible rfl | ((go_at_call 27; (with_reducible refine (CJ1.out _ (below_then HPC.out.bel hq)).mono ?_); rintro e w' ⟨rfl, hb⟩; refine ⟨?_, below_then hq hb⟩; with_reducible rfl)))) | refine class_skip (by rfl) ?_); try simp only [Act.put, List.setIfInBounds_toArray, List.set_cons_zero, List.set_cons_succ]))
      refine wpQuiet_nil ?_
      intro W6 hW6
      have p6 := HPC.out.step hW6
      have OW6 := Lib.hid (own_thenS OW4.out hW6)
      clear pc5 HPC OW4 hW6
      have y1 : W6.cell? ⟨C, 1, none⟩ = some (.int .i64 p) := p6.2.cell 1
      have y2 : W6.cell? ⟨C, 2, none⟩ = some (.int .i64 q) := p6.2.cell 2
      have P6 := Lib.hid p6; clear p6
      by_cases hpq : q = p
      · have HE := Lib.hid (show mL (⟨nl.toArray⟩, p, q) = M3 by rw [HML.out, if_pos hpq, HM3.out]; simp)
        have d1 : (p != q) = false := by simpa using hpq.symm
        have d2 : (p == q) = true := by simpa using hpq.symm
        clear hpq
        have zb : w.heap.size < W6.heap.size := P6.out.1.1.lt
        go_wp2_with (at_builtin; refine wpList_append_own _ rfl _ _ 52 rfl (w.heap.size + 1) 9 i0 (.string ⟨#[]⟩) 1 16 Tryd.underlying52 hi hz0 hz1 hz2 rfl (by decide) _ _ _ rfl (OW6.out.alloc _) ⟨W6.heap.size, 0, none⟩ 1 1 [.string ⟨M3.toArray⟩] rfl rfl (World.news_of_block (cs := #[.string ⟨M3.toArray⟩]) (t := 9) (fr := (0, 0)) (heap_alloc_new W6 _)) (by simp [Value.oneCell']) (by unfold maxLen; omega) (by omega) (by first | omega | (simp; omega)) ?_; intro v' w4 hown' hgrow _)
        have bw := ((Below.refl (w.heap.size + 1) W6).alloc (by have := P6.out.1.1.lt; omega) (.cells #[.string ⟨M3.toArray⟩] 9)).grown hgrow (by have := P6.out.1.1.lt; simp; omega) (fun bb hbb => own_farS OW6.out hbb)
        have o4 : One w (.cells #[.string ⟨sl.toArray⟩, .int .i64 f, .int .i64 c, .int .i64 k, .int .i64 m, .slice a1 n1 c1, .slice (some ⟨b0, off, none⟩) n2 c2] 36) w4 := ⟨P6.out.1.1.below bw (by omega), P6.out.1.2.trans (bw.mono (by omega))⟩
        have O4 := Lib.hid o4
        have OWN' := Lib.hid hown'
        clear zb hown' hgrow bw o4 y1 y2 d1 d2 aM1 aM2 aM3 aM4 aS P6 OW6
        go_wp2_with fail
        go_roundw
        case rel => exact ⟨j + 1, by omega, by go_num, by rw [HS.out, HE.out, List.map_append]; exact OWN'.out, O4.out⟩
        case measure => simp [intOf]; omega
      · have HE := Lib.hid (show mL (⟨nl.toArray⟩, p, q) = M4 by rw [HML.out, if_neg hpq, HM4.out, HM3.out]; simp)
        have d1 : (p != q) = true := by simpa using fun h => hpq h.symm
        have d2 : (p == q) = false := by simpa using fun h => hpq h.symm
        clear hpq
        go_wp2_with fail
        refine (CJ2.out _ P6.out.1.2).mono ?_
        rintro e W7 ⟨rfl, hb⟩
        have P7 := Lib.hid (P6.out.step hb)
        have OW7 := Lib.hid (own_thenS OW6.out hb)
        clear hb P6 OW6 y1 y2
        have zb : w.heap.size < W7.heap.size := P7.out.1.1.lt
        go_wp2_with (at_builtin; refine wpList_append_own _ rfl _ _ 52 rfl (w.heap.size + 1) 9 i0 (.string ⟨#[]⟩) 1 16 Tryd.underlying52 hi hz0 hz1 hz2 rfl (by decide) _ _ _ rfl (OW7.out.alloc _) ⟨W7.heap.size, 0, none⟩ 1 1 [.string ⟨M4.toArray⟩] rfl rfl (World.news_of_block (cs := #[.string ⟨M4.toArray⟩]) (t := 9) (fr := (0, 0)) (heap_alloc_new W7 _)) (by simp [Value.oneCell']) (by unfold maxLen; omega) (by omega) (by first | omega | (simp; omega)) ?_; intro v' w4 hown' hgrow _)
        have bw := ((Below.refl (w.heap.size + 1) W7).alloc (by have := P7.out.1.1.lt; omega) (.cells #[.string ⟨M4.toArray⟩] 9)).grown hgrow (by have := P7.out.1.1.lt; simp; omega) (fun bb hbb => own_farS OW7.out hbb)
        have o4 : One w (.cells #[.string ⟨sl.toArray⟩, .int .i64 f, .int .i64 c, .int .i64 k, .int .i64 m, .slice a1 n1 c1, .slice (some ⟨b0, off, none⟩) n2 c2] 36) w4 := ⟨P7.out.1.1.below bw (by omega), P7.out.1.2.trans (bw.mono (by omega))⟩
        have O4 := Lib.hid o4
        have OWN' := Lib.hid hown'
        clear zb hown' hgrow bw o4 d1 d2 aM1 aM2 aM3 aM4 aS P7 OW7
        go_wp2_with fail
        go_roundw
        case rel => exact ⟨j + 1, by omega, by go_num, by rw [HS.out, HE.out, List.map_append]; exact OWN'.out, O4.out⟩
        case measure => simp [intOf]; omega
    · obtain rfl : j = n2 := by omega
      obtain ⟨hl1, hl2⟩ := HZL.out j
      have hll := lines_len sl f c (.node k m ks) ms j (by rw [LN.out]; exact Nat.le_refl _)
      obtain ⟨g, cp, rfl, hcp, hg, hcells⟩ := own_strs OWN.out hll (by omega)
      have HTX := lines_text sl f c (.node k m ks) ms j
      obtain ⟨X, hX⟩ : ∃ X, X = Lib.join (linesOf sl f c (.node k m ks) ms j) [10] := ⟨_, rfl⟩
      rw [← hX] at HTX
      have hXl : X.length + 1 ≤ 2600 + 71 * j := by have := congrArg List.length HTX; simp at this; omega
      have aX := add_list X [10] (rulL sl f c (.node k m ks) ms j) HTX (by simp; omega)
      have CJ : Calls Tryd.prog 33 #[.slice (some ⟨g, 0, none⟩) (4 + j) cp, .string ⟨#[10]⟩] wr fun e w' => e = .returned (.string ⟨X.toArray⟩) ∧ Below wr.heap.size wr w' := by
        have h0 := Any.strings_Join Tryd.laysn156 extraJ g 0 cp ((linesOf sl f c (.node k m ks) ms j).map fun l => (⟨l.toArray⟩ : ByteArray)) ⟨#[10]⟩ wr (fun i x hx => by
          rw [List.getElem?_map, Option.map_eq_some_iff] at hx
          obtain ⟨l, hl, rfl⟩ := hx
          exact hcells i l hl) hg (by rw [List.length_map, hll]; omega) (by rw [List.length_map, hll]; exact hcp) (by
          have e : ((linesOf sl f c (.node k m ks) ms j).map fun l => (⟨l.toArray⟩ : ByteArray)).map (·.data.toList) = linesOf sl f c (.node k m ks) ms j := by rw [List.map_map]; simp [Function.comp_def]
          rw [e]; show (Lib.join _ [10]).length ≤ _; rw [← hX]; omega)
        have e : ((linesOf sl f c (.node k m ks) ms j).map fun l => (⟨l.toArray⟩ : ByteArray)).map (·.data.toList) = linesOf sl f c (.node k m ks) ms j := by rw [List.map_map]; simp [Function.comp_def]
        rw [e, List.length_map, hll] at h0
        rw [show (⟨#[10]⟩ : ByteArray).data.toList = [10] from rfl, ← hX] at h0
        exact h0
      have CJ := Lib.hid CJ
      have HP := Lib.hid hp
      clear hp hcells hX HTX hll OWN hl1 hl2 hXl
      go_wp2_with fail
      refine CJ.out.mono ?_
      rintro e W5 ⟨rfl, hb⟩
      have O5 := Lib.hid (HP.out.step hb); clear hb
      go_wp2_with fail
      go_ret
      exact ⟨by rw [rulS, LN.out]; rfl, O5.out.2⟩

end Go.Proofs.YtjjmbnflhldoeabDoor
