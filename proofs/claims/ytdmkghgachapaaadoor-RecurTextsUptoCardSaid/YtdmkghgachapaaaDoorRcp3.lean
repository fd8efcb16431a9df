/- Contract of the reference's RecurText: the same text as recur.show writes. -/
import Derived.Test.YtdmkghgachapaaaDoorRcp2
import Derived.Test.YtdmkghgachapaaaDoorLexN
import Derived.Deep.CutRange
namespace Go.Proofs.YtdmkghgachapaaaDoor
set_option linter.unusedVariables false
set_option linter.unusedSimpArgs false
set_option maxRecDepth 100000
open Go.RowKit Go.Shelf

theorem join_snoc (c : UInt8) (xs : List (List UInt8)) (y : List UInt8) (h : xs ≠ []) : Lib.join (xs ++ [y]) [c] = Lib.join xs [c] ++ ([c] ++ y) := by
  cases xs with
  | nil => exact absurd rfl h
  | cons a ps =>
    rw [List.cons_append, join_glue, join_glue, glue_app]
    simp [glue]
theorem numsS_snoc (l : List Int) (x : Int) (h : l ≠ []) : numsS (l ++ [x]) = numsS l ++ ([44] ++ Lib.itoa x) := by
  unfold numsS
  rw [List.map_append]
  exact join_snoc 44 _ _ (by simpa using h)
theorem numsS_one (x : Int) : numsS [x] = Lib.itoa x := by unfold numsS; rw [List.map_cons, join_glue]; simp [glue]
/-- The text behind j numbers of a list. -/
def partT (A w : List UInt8) (l : List Int) (j : Nat) : List UInt8 := if j = 0 then A else A ++ [32] ++ w ++ [32] ++ numsS (l.take j)
theorem partT_end (A w : List UInt8) (l : List Int) : partT A w l l.length = A ++ glue 32 (listP w l) := by
  unfold partT listP
  by_cases h : l = []
  · rw [if_pos (by rw [h]; rfl), if_pos h]; simp [glue]
  · rw [if_neg (fun e => h (List.length_eq_zero_iff.1 e)), if_neg h, List.take_length]; simp [glue]
theorem partT_succ (A w : List UInt8) (l : List Int) (j : Nat) (x : Int) (hx : l[j]? = some x) : partT A w l (j + 1) = partT A w l j ++ ((if j = 0 then [32] ++ w ++ [32] else [44]) ++ Lib.itoa x) := by
  have ht : l.take (j + 1) = l.take j ++ [x] := by rw [List.take_add_one, hx]; rfl
  unfold partT
  rw [if_neg (by omega), ht]
  by_cases h : j = 0
  · subst h
    rw [if_pos rfl, if_pos rfl, List.take_zero, List.nil_append, numsS_one]; simp
  · have hne : l.take j ≠ [] := by
      intro e
      have h1 := (List.getElem?_eq_some_iff.1 hx).1
      have h2 := congrArg List.length e
      rw [List.length_take] at h2
      simp at h2
      rcases h2 with h2 | h2
      · exact h h2
      · rw [h2] at h1; simp at h1
    rw [if_neg h, if_neg h, numsS_snoc _ _ hne]; simp
theorem unit_cell (k : Nat) (h1 : 1 ≤ k) (h2 : k < 5) : (#[Value.string ⟨#[]⟩, .string ⟨#[32, 100, 97, 121]⟩, .string ⟨#[32, 119, 101, 101, 107]⟩, .string ⟨#[32, 109, 111, 110, 116, 104]⟩, .string ⟨#[32, 121, 101, 97, 114]⟩] : Array Value)[k]? = some (.string ⟨([32] ++ unitS (k : Int)).toArray⟩) := by
  rcases (show k = 1 ∨ k = 2 ∨ k = 3 ∨ k = 4 by omega) with rfl | rfl | rfl | rfl <;> rfl
theorem numsS_take (l : List Int) (h : ∀ x ∈ l, I64 x) (j : Nat) : (numsS (l.take j)).length ≤ 22 * l.length := by
  have h1 := numsS_len (l.take j) (fun x hx => h x (List.mem_of_mem_take hx))
  have h2 : (l.take j).length ≤ l.length := by rw [List.length_take]; omega
  have h3 := Nat.mul_le_mul_left 22 h2
  omega
theorem partT_len (A w : List UInt8) (l : List Int) (h : ∀ x ∈ l, I64 x) (j : Nat) : (partT A w l j).length ≤ A.length + w.length + 2 + 22 * l.length := by
  unfold partT
  split
  · omega
  · have := numsS_take l h j
    simp only [List.length_append, List.length_cons, List.length_nil]
    omega
/-- List q of the three, with its word. -/
def wordQ (q : Nat) : List UInt8 := if q = 0 then wWeek else if q = 1 then wMonth else wMonths
def listQ (ws ms ns : List Int) (q : Nat) : List Int := if q = 0 then ws else if q = 1 then ms else ns
theorem acc_step (T : List UInt8) (ws ms ns : List Int) (q : Nat) (hq : q < 3) : accT T ws ms ns (q + 1) = accT T ws ms ns q ++ glue 32 (listP (wordQ q) (listQ ws ms ns q)) := by
  rcases (show q = 0 ∨ q = 1 ∨ q = 2 by omega) with rfl | rfl | rfl <;> rfl
theorem word_cell (q : Nat) (hq : q < 3) : (#[Value.string ⟨#[32, 119, 101, 101, 107, 100, 97, 121, 115, 32]⟩, .string ⟨#[32, 109, 111, 110, 116, 104, 100, 97, 121, 115, 32]⟩, .string ⟨#[32, 109, 111, 110, 116, 104, 115, 32]⟩] : Array Value)[q]? = some (.string ⟨([32] ++ wordQ q ++ [32]).toArray⟩) := by
  rcases (show q = 0 ∨ q = 1 ∨ q = 2 by omega) with rfl | rfl | rfl <;> rfl
theorem wordQ_len (q : Nat) : (wordQ q).length ≤ 9 := by unfold wordQ; split <;> (try split) <;> decide
theorem acc_len (T : List UInt8) (ws ms ns : List Int) (hT : T.length ≤ 300) (g1 : (numsS ws).length ≤ 96757023244288) (g2 : (numsS ms).length ≤ 96757023244288) (g3 : (numsS ns).length ≤ 96757023244288) (j : Nat) : (accT T ws ms ns j).length ≤ 400000000000000 := by
  have g : ∀ (w : List UInt8) (l : List Int), w.length ≤ 9 → (numsS l).length ≤ 96757023244288 → (glue 32 (listP w l)).length ≤ 96757023244300 := by
    intro w l hw hl
    unfold listP
    split
    · simp [glue]
    · simp [glue]; omega
  have g1 := g wWeek ws (by decide) g1
  have g2 := g wMonth ms (by decide) g2
  have g3 := g wMonths ns (by decide) g3
  match j with
  | 0 => show T.length ≤ _; omega
  | 1 => simp only [accT, List.length_append]; omega
  | 2 => simp only [accT, List.length_append]; omega
  | j + 3 => simp only [accT, List.length_append]; omega
set_option maxHeartbeats 8000000 in
theorem ref_RecurText (w : World) (k : Nat) (hk1 : 1 ≤ k) (hk : k < 5) (ev f cn un : Int) (a1 a2 a3 : Option Addr) (n1 n2 n3 c1 c2 c3 : Nat) (ws ms ns : List Int) (he : I64 ev) (hf : I64 f) (hc : I64 cn) (hu : I64 un) (hcn : 0 ≤ cn)
    (h1 : Ints w w.heap.size a1 n1 ws) (h2 : Ints w w.heap.size a2 n2 ms) (h3 : Ints w w.heap.size a3 n3 ns) (m1 : n1 ≤ 4398046511104) (m2 : n2 ≤ 4398046511104) (m3 : n3 ≤ 4398046511104) (hp : Pow w) :
    Calls Tryd.prog 8 #[.agg (recV (k : Int) ev f cn un a1 a2 a3 n1 n2 n3 c1 c2 c3)] w fun e w' => e = .returned (.string ⟨(recS (k : Int) ev f cn un ws ms ns).toArray⟩) ∧ Below w.heap.size w w' := by
  have L1 := Lib.hid h1.1; have L2 := Lib.hid h2.1; have L3 := Lib.hid h3.1
  have q1 := numsS_len ws h1.2.2.1; have q2 := numsS_len ms h2.2.2.1; have q3 := numsS_len ns h3.2.2.1
  rw [L1.out] at q1; rw [L2.out] at q2; rw [L3.out] at q3
  have H1 := Lib.hid h1; have H2 := Lib.hid h2; have H3 := Lib.hid h3
  have HP := Lib.hid hp
  have CI := Lib.hid (fun (W : World) (hW : Below w.heap.size w W) (x : Int) (hx : I64 x) => lib_Itoa x W hx.1 hx.2 (HP.out.below hW))
  have le := itoa_len21 he; have lf := itoa_len21 hf; have lc := itoa_len21 hc; have lu := itoa_len21 hu; have lk := unitS_len (k : Int)
  have HE := Lib.hid he; have HF := Lib.hid hf; have HC := Lib.hid hc; have HUN := Lib.hid hu
  obtain ⟨P, hP⟩ : ∃ P, P = headS (k : Int) ev f un := ⟨_, rfl⟩
  have hPl : P.length ≤ 200 := by rw [hP]; unfold headS; simp; omega
  obtain ⟨RES, hRES⟩ : ∃ R, R = recS (k : Int) ev f cn un ws ms ns := ⟨_, rfl⟩
  rw [← hRES]
  have HRES := Lib.hid (show RES = P ++ glue 32 (timesP cn) ++ glue 32 (listP wWeek ws) ++ glue 32 (listP wMonth ms) ++ glue 32 (listP wMonths ns) from by rw [hRES, hP, recS_head])
  unfold headS at hP
  obtain ⟨E, hEe⟩ : ∃ E, E = Lib.itoa ev := ⟨_, rfl⟩
  obtain ⟨F, hFe⟩ : ∃ F, F = Lib.itoa f := ⟨_, rfl⟩
  obtain ⟨U, hUe⟩ : ∃ U, U = Lib.itoa un := ⟨_, rfl⟩
  obtain ⟨C, hCe⟩ : ∃ C, C = Lib.itoa cn := ⟨_, rfl⟩
  obtain ⟨US, hUS⟩ : ∃ q, q = [32] ++ unitS (k : Int) := ⟨_, rfl⟩
  have iE : itoaS ev = ⟨E.toArray⟩ := by rw [hEe]; rfl
  have iF : itoaS f = ⟨F.toArray⟩ := by rw [hFe]; rfl
  have iU : itoaS un = ⟨U.toArray⟩ := by rw [hUe]; rfl
  have iC : itoaS cn = ⟨C.toArray⟩ := by rw [hCe]; rfl
  rw [← hEe, ← hFe, ← hUe] at hP
  rw [← hEe] at le; rw [← hFe] at lf; rw [← hCe] at lc; rw [← hUe] at lu
  have lk' : US.length ≤ 6 := by rw [hUS]; simp; omega
  have HUC := Lib.hid (show (#[Value.string ⟨#[]⟩, .string ⟨#[32, 100, 97, 121]⟩, .string ⟨#[32, 119, 101, 101, 107]⟩, .string ⟨#[32, 109, 111, 110, 116, 104]⟩, .string ⟨#[32, 121, 101, 97, 114]⟩] : Array Value)[k]? = some (.string ⟨US.toArray⟩) by rw [hUS]; exact unit_cell k hk1 hk)
  obtain ⟨x1, e1⟩ : ∃ q, q = [101, 118, 101, 114, 121, 32] ++ E := ⟨_, rfl⟩
  obtain ⟨x3, e3⟩ : ∃ q, q = x1 ++ US := ⟨_, rfl⟩
  obtain ⟨x4, e4⟩ : ∃ q, q = x3 ++ [32, 102, 114, 111, 109, 32] := ⟨_, rfl⟩
  obtain ⟨x5, e5⟩ : ∃ q, q = x4 ++ F := ⟨_, rfl⟩
  obtain ⟨x6, e6⟩ : ∃ q, q = x5 ++ [32, 117, 110, 116, 105, 108, 32] := ⟨_, rfl⟩
  have e7 : x6 ++ U = P := by rw [hP, e6, e5, e4, e3, e1, hUS]; simp
  have l1 : x1.length ≤ 30 := by rw [e1]; simp; omega
  have l3 : x3.length ≤ 40 := by rw [e3]; simp; omega
  have l4 : x4.length ≤ 50 := by rw [e4]; simp; omega
  have l5 : x5.length ≤ 80 := by rw [e5]; simp; omega
  have l6 : x6.length ≤ 90 := by rw [e6]; simp; omega
  have p1 := addL [101, 118, 101, 114, 121, 32] E x1 e1.symm (by omega)
  have p3 := addL x1 US x3 e3.symm (by omega)
  have p4 := addL x3 [32, 102, 114, 111, 109, 32] x4 e4.symm (by omega)
  have p5 := addL x4 F x5 e5.symm (by omega)
  have p6 := addL x5 [32, 117, 110, 116, 105, 108, 32] x6 e6.symm (by omega)
  have p7 := addL x6 U P e7 (by omega)
  have HCE := Lib.hid hCe
  have IE := Lib.hid iE; have IF := Lib.hid iF; have IU := Lib.hid iU; have IC := Lib.hid iC
  clear hP hRES hEe hFe hUe hCe hUS e1 e3 e4 e5 e6 e7 l1 l3 l4 l5 l6 iE iF iU iC h1 h2 h3 hp he hf hc hu lk lk'
  have hk0 : (0 : Int) ≤ (k : Int) := by omega
  have hk5 : (k : Int) < 5 := by omega
  go_enter Tryd.func8, Tryd.ntmps8
  go_wp2_with fail
  have t0 := At.new w (recO (k : Int) ev f cn un a1 a2 a3 n1 n2 n3 c1 c2 c3)
  have b0 := below_new (Below.refl w.heap.size w) (recO (k : Int) ev f cn un a1 a2 a3 n1 n2 n3 c1 c2 c3)
  generalize World.alloc w _ = W1 at t0 b0 ⊢
  obtain ⟨T, hT⟩ : ∃ T, T = w.heap.size := ⟨_, rfl⟩
  have HTQ := Lib.hid hT
  rw [← hT] at t0 ⊢
  clear hT
  have T1 := Lib.hid t0; have B1 := Lib.hid b0
  clear t0 b0
  have KK := Lib.hid (fun (W : World) (hW : Below W1.heap.size W1 W) => show W.cell? ⟨T, 0, none⟩ = some (.int .i64 (k : Int)) ∧ W.cell? ⟨T, 1, none⟩ = some (.int .i64 ev) ∧ W.cell? ⟨T, 2, none⟩ = some (.int .i64 f) ∧ W.cell? ⟨T, 4, none⟩ = some (.int .i64 un) from ⟨(T1.out.then_ hW).cell 0, (T1.out.then_ hW).cell 1, (T1.out.then_ hW).cell 2, (T1.out.then_ hW).cell 4⟩)
  have CIE := Lib.hid (fun (W : World) (hW : Below W1.heap.size W1 W) => show Calls Tryd.prog 19 #[.int .i64 ev] W fun e w' => e = .returned (.string ⟨E.toArray⟩) ∧ Below W.heap.size W w' from by rw [← IE.out]; exact CI.out W (below_then B1.out hW) ev HE.out)
  have CIF := Lib.hid (fun (W : World) (hW : Below W1.heap.size W1 W) => show Calls Tryd.prog 19 #[.int .i64 f] W fun e w' => e = .returned (.string ⟨F.toArray⟩) ∧ Below W.heap.size W w' from by rw [← IF.out]; exact CI.out W (below_then B1.out hW) f HF.out)
  have CIU := Lib.hid (fun (W : World) (hW : Below W1.heap.size W1 W) => show Calls Tryd.prog 19 #[.int .i64 un] W fun e w' => e = .returned (.string ⟨U.toArray⟩) ∧ Below W.heap.size W w' from by rw [← IU.out]; exact CI.out W (below_then B1.out hW) un HUN.out)
  have CIC := Lib.hid (fun (W : World) (hW : Below W1.heap.size W1 W) => show Calls Tryd.prog 19 #[.int .i64 cn] W fun e w' => e = .returned (.string ⟨C.toArray⟩) ∧ Below W.heap.size W w' from by rw [← IC.out]; exact CI.out W (below_then B1.out hW) cn HC.out)
  go_upto_region 1 with fail
  go_cut [3] from 9 (fun v wx => v = .string ⟨P.toArray⟩ ∧ Below W1.heap.size W1 wx)
  case first =>
    refine wp_region_held_drew (S := (fun w' => w'.cell? ⟨T, 0, none⟩ = some (.int .i64 (k : Int)) ∧ w'.cell? ⟨T, 1, none⟩ = some (.int .i64 ev) ∧ w'.cell? ⟨T, 2, none⟩ = some (.int .i64 f) ∧ w'.cell? ⟨T, 4, none⟩ = some (.int .i64 un))) (by kernel_rfl) ?_ (fun hHeld => ?_)
    · (try dsimp only); exact KK.out _ ((Below.refl _ _).drew)
    have BV := Lib.hid (Below.refl W1.heap.size W1).drew
    generalize World.drew W1 = V0 at BV hHeld ⊢
    refine' join2 (F := fun Z V => Below W1.heap.size W1 V) (fun hj => ?_) ?_
    rotate_left
    · refine lex_take (i := 0) (v := ?_) rfl (by kernel_rfl) (by kernel_rfl) (by kernel_rfl) (fun _ _ _ h => h) (by rfl) ?_ (by assumption) ?_
      rotate_left
      · (intro w hSw; (try dsimp only at hSw); have z0 := hSw.1; have z1 := hSw.2.1; have z2 := hSw.2.2.1; have z4 := hSw.2.2.2; go_simp; try with_reducible rfl)
      try simp only [Act.put, List.setIfInBounds_toArray, List.set_cons_zero, List.set_cons_succ]
      refine lex_take (i := 1) (v := ?_) rfl (by kernel_rfl) (by kernel_rfl) (by kernel_rfl) (fun _ _ _ h => h) (by rfl) ?_ (by assumption) ?_
      rotate_left
      · (intro w hSw; (try dsimp only at hSw); have z0 := hSw.1; have z1 := hSw.2.1; have z2 := hSw.2.2.1; have z4 := hSw.2.2.2; go_simp; try with_reducible rfl)
      try simp only [Act.put, List.setIfInBounds_toArray, List.set_cons_zero, List.set_cons_succ]
      refine lex_take (i := 5) (v := ?_) rfl (by kernel_rfl) (by kernel_rfl) (by kernel_rfl) (fun _ _ _ h => h) (by rfl) ?_ (by assumption) ?_
      rotate_left
      · (intro w hSw; (try dsimp only at hSw); have z0 := hSw.1; have z1 := hSw.2.1; have z2 := hSw.2.2.1; have z4 := hSw.2.2.2; go_simp; try with_reducible rfl)
      try simp only [Act.put, List.setIfInBounds_toArray, List.set_cons_zero, List.set_cons_succ]
      refine lex_take (i := 6) (v := ?_) rfl (by kernel_rfl) (by kernel_rfl) (by kernel_rfl) (fun _ _ _ h => h) (by rfl) ?_ (by assumption) ?_
      rotate_left
      · (intro w hSw; (try dsimp only at hSw); have z0 := hSw.1; have z1 := hSw.2.1; have z2 := hSw.2.2.1; have z4 := hSw.2.2.2; go_simp; try with_reducible rfl)
      try simp only [Act.put, List.setIfInBounds_toArray, List.set_cons_zero, List.set_cons_succ]
      refine lex_take (i := 11) (v := ?_) rfl (by kernel_rfl) (by kernel_rfl) (by kernel_rfl) (fun _ _ _ h => h) (by rfl) ?_ (by assumption) ?_
      rotate_left
      · (intro w hSw; (try dsimp only at hSw); have z0 := hSw.1; have z1 := hSw.2.1; have z2 := hSw.2.2.1; have z4 := hSw.2.2.2; go_simp; try with_reducible rfl)
      try simp only [Act.put, List.setIfInBounds_toArray, List.set_cons_zero, List.set_cons_succ]
      refine lex_take (i := 12) (v := ?_) rfl (by kernel_rfl) (by kernel_rfl) (by kernel_rfl) (fun _ _ _ h => h) (by rfl) ?_ (by assumption) ?_
      rotate_left
      · (intro w hSw; (try dsimp only at hSw); have z0 := hSw.1; have z1 := hSw.2.1; have z2 := hSw.2.2.1; have z4 := hSw.2.2.2; go_simp; try with_reducible rfl)
      try simp only [Act.put, List.setIfInBounds_toArray, List.set_cons_zero, List.set_cons_succ]
      refine lex_take (i := 16) (v := ?_) rfl (by kernel_rfl) (by kernel_rfl) (by kernel_rfl) (fun _ _ _ h => h) (by rfl) ?_ (by assumption) ?_
      rotate_left
      · (intro w hSw; (try dsimp only at hSw); have z0 := hSw.1; have z1 := hSw.2.1; have z2 := hSw.2.2.1; have z4 := hSw.2.2.2; go_simp; try with_reducible rfl)
      try simp only [Act.put, List.setIfInBounds_toArray, List.set_cons_zero, List.set_cons_succ]
      refine lex_take (i := 17) (v := ?_) rfl (by kernel_rfl) (by kernel_rfl) (by kernel_rfl) (fun _ _ _ h => h) (by rfl) ?_ (by assumption) ?_
      rotate_left
      · (intro w hSw; (try dsimp only at hSw); have z0 := hSw.1; have z1 := hSw.2.1; have z2 := hSw.2.2.1; have z4 := hSw.2.2.2; go_simp; try with_reducible rfl)
      try simp only [Act.put, List.setIfInBounds_toArray, List.set_cons_zero, List.set_cons_succ]
      refine lex_n2 (i := 2) (j := 4) rfl rfl (by kernel_rfl) (by rfl) (by rfl) (fun Kx hKx => ?_) (fun Kx hKx => ?_)
      · (go_simp; go_at_call 19; (with_reducible refine (CIE.out _ BV.out).mono ?_); rintro e V1 ⟨rfl, hb⟩; try go_wp2_with fail)
        refine hKx.out _ _ ?_ (fun hHeld => ?_)
        · (try dsimp only); exact KK.out _ (below_then BV.out hb)
        clear hKx Kx
        try simp only [Act.put, List.setIfInBounds_toArray, List.set_cons_zero, List.set_cons_succ]
        replace BV := Lib.hid (below_then BV.out hb)
        clear hb
        refine lex_take (i := 3) (v := ?_) rfl (by kernel_rfl) (by kernel_rfl) (by kernel_rfl) (fun _ _ _ h => h) (by rfl) ?_ (by assumption) ?_
        rotate_left
        · (intro w hSw; (try dsimp only at hSw); go_simp; try with_reducible rfl)
        try simp only [Act.put, List.setIfInBounds_toArray, List.set_cons_zero, List.set_cons_succ]
        refine lex_n2 (i := 4) (j := 13) rfl rfl (by kernel_rfl) (by rfl) (by rfl) (fun Kx hKx => ?_) (fun Kx hKx => ?_)
        · go_simp
          refine hKx.out _ _ ?_ (fun hHeld => ?_)
          · (try dsimp only); exact KK.out _ (below_new BV.out _)
          clear hKx Kx
          try simp only [Act.put, List.setIfInBounds_toArray, List.set_cons_zero, List.set_cons_succ]
          replace BV := Lib.hid (below_new BV.out (.cells #[.string ⟨#[]⟩, .string ⟨#[32, 100, 97, 121]⟩, .string ⟨#[32, 119, 101, 101, 107]⟩, .string ⟨#[32, 109, 111, 110, 116, 104]⟩, .string ⟨#[32, 121, 101, 97, 114]⟩] 9))
          have A4 := Lib.hid (At.new V1 (.cells #[.string ⟨#[]⟩, .string ⟨#[32, 100, 97, 121]⟩, .string ⟨#[32, 119, 101, 101, 107]⟩, .string ⟨#[32, 109, 111, 110, 116, 104]⟩, .string ⟨#[32, 121, 101, 97, 114]⟩] 9))
          obtain ⟨Z4, hZ4⟩ : ∃ Z, Z = V1.heap.size := ⟨_, rfl⟩
          rw [← hZ4] at A4 ⊢
          clear hZ4
          generalize World.alloc V1 _ = V2 at BV hHeld A4 ⊢
          refine lex_take (i := 7) (v := ?_) rfl (by kernel_rfl) (by kernel_rfl) (by kernel_rfl) (fun _ _ _ h => h) (by rfl) ?_ (by assumption) ?_
          rotate_left
          · (intro w hSw; (try dsimp only at hSw); go_simp; try with_reducible rfl)
          try simp only [Act.put, List.setIfInBounds_toArray, List.set_cons_zero, List.set_cons_succ]
          refine lex_n2 (i := 8) (j := 13) rfl rfl (by kernel_rfl) (by rfl) (by rfl) (fun Kx hKx => ?_) (fun Kx hKx => ?_)
          · have c4 : V2.cell? ⟨Z4, k, none⟩ = some (.string ⟨US.toArray⟩) := (A4.out.cell k).trans HUC.out
            go_simp
            try go_wp2_with fail
            refine hKx.out _ _ ?_ (fun hHeld => ?_)
            · (try dsimp only); exact KK.out _ (BV.out)
            clear hKx Kx
            try simp only [Act.put, List.setIfInBounds_toArray, List.set_cons_zero, List.set_cons_succ]
            clear c4
            obtain ⟨V3, hV3⟩ : ∃ X, X = V2 := ⟨_, rfl⟩
            rw [← hV3] at BV A4 hHeld ⊢
            clear hV3
            refine lex_take (i := 9) (v := ?_) rfl (by kernel_rfl) (by kernel_rfl) (by kernel_rfl) (fun _ _ _ h => h) (by rfl) ?_ (by assumption) ?_
            rotate_left
            · (intro w hSw; (try dsimp only at hSw); go_simp; try with_reducible rfl)
            try simp only [Act.put, List.setIfInBounds_toArray, List.set_cons_zero, List.set_cons_succ]
            refine lex_take (i := 10) (v := ?_) rfl (by kernel_rfl) (by kernel_rfl) (by kernel_rfl) (fun _ _ _ h => h) (by rfl) ?_ (by assumption) ?_
            rotate_left
            · (intro w hSw; (try dsimp only at hSw); go_simp; try with_reducible rfl)
            try simp only [Act.put, List.setIfInBounds_toArray, List.set_cons_zero, List.set_cons_succ]
            refine lex_step (i := 13) rfl (by kernel_rfl) (by rfl) (fun Kx hKx => ?_)
            (go_simp; go_at_call 19; (with_reducible refine (CIF.out _ BV.out).mono ?_); rintro e V4 ⟨rfl, hb⟩; try go_wp2_with fail)
            refine hKx.out _ _ ?_ (fun hHeld => ?_)
            · (try dsimp only); exact KK.out _ (below_then BV.out hb)
            clear hKx Kx
            try simp only [Act.put, List.setIfInBounds_toArray, List.set_cons_zero, List.set_cons_succ]
            replace A4 := Lib.hid (A4.out.then_ hb)
            replace BV := Lib.hid (below_then BV.out hb)
            clear hb
            refine lex_take (i := 14) (v := ?_) rfl (by kernel_rfl) (by kernel_rfl) (by kernel_rfl) (fun _ _ _ h => h) (by rfl) ?_ (by assumption) ?_
            rotate_left
            · (intro w hSw; (try dsimp only at hSw); go_simp; try with_reducible rfl)
            try simp only [Act.put, List.setIfInBounds_toArray, List.set_cons_zero, List.set_cons_succ]
            refine lex_take (i := 15) (v := ?_) rfl (by kernel_rfl) (by kernel_rfl) (by kernel_rfl) (fun _ _ _ h => h) (by rfl) ?_ (by assumption) ?_
            rotate_left
            · (intro w hSw; (try dsimp only at hSw); go_simp; try with_reducible rfl)
            try simp only [Act.put, List.setIfInBounds_toArray, List.set_cons_zero, List.set_cons_succ]
            refine lex_step (i := 18) rfl (by kernel_rfl) (by rfl) (fun Kx hKx => ?_)
            (go_simp; go_at_call 19; (with_reducible refine (CIU.out _ BV.out).mono ?_); rintro e V5 ⟨rfl, hb⟩; try go_wp2_with fail)
            refine hKx.out _ _ ?_ (fun hHeld => ?_)
            · (try dsimp only); exact KK.out _ (below_then BV.out hb)
            clear hKx Kx
            try simp only [Act.put, List.setIfInBounds_toArray, List.set_cons_zero, List.set_cons_succ]
            replace A4 := Lib.hid (A4.out.then_ hb)
            replace BV := Lib.hid (below_then BV.out hb)
            clear hb
            refine lex_take (i := 19) (v := ?_) rfl (by kernel_rfl) (by kernel_rfl) (by kernel_rfl) (fun _ _ _ h => h) (by rfl) ?_ (by assumption) ?_
            rotate_left
            · (intro w hSw; (try dsimp only at hSw); go_simp; try with_reducible rfl)
            try simp only [Act.put, List.setIfInBounds_toArray, List.set_cons_zero, List.set_cons_succ]
            refine lex_take (i := 20) (v := ?_) rfl (by kernel_rfl) (by kernel_rfl) (by kernel_rfl) (fun _ _ _ h => h) (by rfl) ?_ (by assumption) ?_
            rotate_left
            · (intro w hSw; (try dsimp only at hSw); go_simp; try with_reducible rfl)
            try simp only [Act.put, List.setIfInBounds_toArray, List.set_cons_zero, List.set_cons_succ]
            exact hj Z4 V5 BV.out
          · (go_simp; go_at_call 19; (with_reducible refine (CIF.out _ BV.out).mono ?_); rintro e V3 ⟨rfl, hb⟩; try go_wp2_with fail)
            refine hKx.out _ _ ?_ (fun hHeld => ?_)
            · (try dsimp only); exact KK.out _ (below_then BV.out hb)
            clear hKx Kx
            try simp only [Act.put, List.setIfInBounds_toArray, List.set_cons_zero, List.set_cons_succ]
            replace A4 := Lib.hid (A4.out.then_ hb)
            replace BV := Lib.hid (below_then BV.out hb)
            clear hb
            refine lex_n2 (i := 8) (j := 18) rfl rfl (by kernel_rfl) (by rfl) (by rfl) (fun Kx hKx => ?_) (fun Kx hKx => ?_)
            · have c4 : V3.cell? ⟨Z4, k, none⟩ = some (.string ⟨US.toArray⟩) := (A4.out.cell k).trans HUC.out
              go_simp
              try go_wp2_with fail
              refine hKx.out _ _ ?_ (fun hHeld => ?_)
              · (try dsimp only); exact KK.out _ (BV.out)
              clear hKx Kx
              try simp only [Act.put, List.setIfInBounds_toArray, List.set_cons_zero, List.set_cons_succ]
              clear c4
              obtain ⟨V4, hV4⟩ : ∃ X, X = V3 := ⟨_, rfl⟩
              rw [← hV4] at BV A4 hHeld ⊢
              clear hV4
              refine lex_take (i := 9) (v := ?_) rfl (by kernel_rfl) (by kernel_rfl) (by kernel_rfl) (fun _ _ _ h => h) (by rfl) ?_ (by assumption) ?_
              rotate_left
              · (intro w hSw; (try dsimp only at hSw); go_simp; try with_reducible rfl)
              try simp only [Act.put, List.setIfInBounds_toArray, List.set_cons_zero, List.set_cons_succ]
              refine lex_take (i := 10) (v := ?_) rfl (by kernel_rfl) (by kernel_rfl) (by kernel_rfl) (fun _ _ _ h => h) (by rfl) ?_ (by assumption) ?_
              rotate_left
              · (intro w hSw; (try dsimp only at hSw); go_simp; try with_reducible rfl)
              try simp only [Act.put, List.setIfInBounds_toArray, List.set_cons_zero, List.set_cons_succ]
              refine lex_take (i := 14) (v := ?_) rfl (by kernel_rfl) (by kernel_rfl) (by kernel_rfl) (fun _ _ _ h => h) (by rfl) ?_ (by assumption) ?_
              rotate_left
              · (intro w hSw; (try dsimp only at hSw); go_simp; try with_reducible rfl)
              try simp only [Act.put, List.setIfInBounds_toArray, List.set_cons_zero, List.set_cons_succ]
              refine lex_take (i := 15) (v := ?_) rfl (by kernel_rfl) (by kernel_rfl) (by kernel_rfl) (fun _ _ _ h => h) (by rfl) ?_ (by assumption) ?_
              rotate_left
              · (intro w hSw; (try dsimp only at hSw); go_simp; try with_reducible rfl)
              try simp only [Act.put, List.setIfInBounds_toArray, List.set_cons_zero, List.set_cons_succ]
              refine lex_step (i := 18) rfl (by kernel_rfl) (by rfl) (fun Kx hKx => ?_)
              (go_simp; go_at_call 19; (with_reducible refine (CIU.out _ BV.out).mono ?_); rintro e V5 ⟨rfl, hb⟩; try go_wp2_with fail)
              refine hKx.out _ _ ?_ (fun hHeld => ?_)
              · (try dsimp only); exact KK.out _ (below_then BV.out hb)
              clear hKx Kx
              try simp only [Act.put, List.setIfInBounds_toArray, List.set_cons_zero, List.set_cons_succ]
              replace A4 := Lib.hid (A4.out.then_ hb)
              replace BV := Lib.hid (below_then BV.out hb)
              clear hb
              refine lex_take (i := 19) (v := ?_) rfl (by kernel_rfl) (by kernel_rfl) (by kernel_rfl) (fun _ _ _ h => h) (by rfl) ?_ (by assumption) ?_
              rotate_left
              · (intro w hSw; (try dsimp only at hSw); go_simp; try with_reducible rfl)
              try simp only [Act.put, List.setIfInBounds_toArray, List.set_cons_zero, List.set_cons_succ]
              refine lex_take (i := 20) (v := ?_) rfl (by kernel_rfl) (by kernel_rfl) (by kernel_rfl) (fun _ _ _ h => h) (by rfl) ?_ (by assumption) ?_
              rotate_left
              · (intro w hSw; (try dsimp only at hSw); go_simp; try with_reducible rfl)
              try simp only [Act.put, List.setIfInBounds_toArray, List.set_cons_zero, List.set_cons_succ]
              exact hj Z4 V5 BV.out
            · (go_simp; go_at_call 19; (with_reducible refine (CIU.out _ BV.out).mono ?_); rintro e V4 ⟨rfl, hb⟩; try go_wp2_with fail)
              refine hKx.out _ _ ?_ (fun hHeld => ?_)
              · (try dsimp only); exact KK.out _ (below_then BV.out hb)
              clear hKx Kx
              try simp only [Act.put, List.setIfInBounds_toArray, List.set_cons_zero, List.set_cons_succ]
              replace A4 := Lib.hid (A4.out.then_ hb)
              replace BV := Lib.hid (below_then BV.out hb)
              clear hb
              refine lex_step (i := 8) rfl (by kernel_rfl) (by rfl) (fun Kx hKx => ?_)
              have c4 : V4.cell? ⟨Z4, k, none⟩ = some (.string ⟨US.toArray⟩) := (A4.out.cell k).trans HUC.out
              go_simp
              try go_wp2_with fail
              refine hKx.out _ _ ?_ (fun hHeld => ?_)
              · (try dsimp only); exact KK.out _ (BV.out)
              clear hKx Kx
              try simp only [Act.put, List.setIfInBounds_toArray, List.set_cons_zero, List.set_cons_succ]
              clear c4
              obtain ⟨V5, hV5⟩ : ∃ X, X = V4 := ⟨_, rfl⟩
              rw [← hV5] at BV A4 hHeld ⊢
              clear hV5
              refine lex_take (i := 9) (v := ?_) rfl (by kernel_rfl) (by kernel_rfl) (by kernel_rfl) (fun _ _ _ h => h) (by rfl) ?_ (by assumption) ?_
              rotate_left
              · (intro w hSw; (try dsimp only at hSw); go_simp; try with_reducible rfl)
              try simp only [Act.put, List.setIfInBounds_toArray, List.set_cons_zero, List.set_cons_succ]
              refine lex_take (i := 10) (v := ?_) rfl (by kernel_rfl) (by kernel_rfl) (by kernel_rfl) (fun _ _ _ h => h) (by rfl) ?_ (by assumption) ?_
              rotate_left
              · (intro w hSw; (try dsimp only at hSw); go_simp; try with_reducible rfl)
              try simp only [Act.put, List.setIfInBounds_toArray, List.set_cons_zero, List.set_cons_succ]
              refine lex_take (i := 14) (v := ?_) rfl (by kernel_rfl) (by kernel_rfl) (by kernel_rfl) (fun _ _ _ h => h) (by rfl) ?_ (by assumption) ?_
              rotate_left
              · (intro w hSw; (try dsimp only at hSw); go_simp; try with_reducible rfl)
              try simp only [Act.put, List.setIfInBounds_toArray, List.set_cons_zero, List.set_cons_succ]
              refine lex_take (i := 15) (v := ?_) rfl (by kernel_rfl) (by kernel_rfl) (by kernel_rfl) (fun _ _ _ h => h) (by rfl) ?_ (by assumption) ?_
              rotate_left
              · (intro w hSw; (try dsimp only at hSw); go_simp; try with_reducible rfl)
              try simp only [Act.put, List.setIfInBounds_toArray, List.set_cons_zero, List.set_cons_succ]
              refine lex_take (i := 19) (v := ?_) rfl (by kernel_rfl) (by kernel_rfl) (by kernel_rfl) (fun _ _ _ h => h) (by rfl) ?_ (by assumption) ?_
              rotate_left
              · (intro w hSw; (try dsimp only at hSw); go_simp; try with_reducible rfl)
              try simp only [Act.put, List.setIfInBounds_toArray, List.set_cons_zero, List.set_cons_succ]
              refine lex_take (i := 20) (v := ?_) rfl (by kernel_rfl) (by kernel_rfl) (by kernel_rfl) (fun _ _ _ h => h) (by rfl) ?_ (by assumption) ?_
              rotate_left
              · (intro w hSw; (try dsimp only at hSw); go_simp; try with_reducible rfl)
              try simp only [Act.put, List.setIfInBounds_toArray, List.set_cons_zero, List.set_cons_succ]
              exact hj Z4 V5 BV.out
        · (go_simp; go_at_call 19; (with_reducible refine (CIF.out _ BV.out).mono ?_); rintro e V2 ⟨rfl, hb⟩; try go_wp2_with fail)
          refine hKx.out _ _ ?_ (fun hHeld => ?_)
          · (try dsimp only); exact KK.out _ (below_then BV.out hb)
          clear hKx Kx
          try simp only [Act.put, List.setIfInBounds_toArray, List.set_cons_zero, List.set_cons_succ]
          replace BV := Lib.hid (below_then BV.out hb)
          clear hb
          refine lex_n2 (i := 4) (j := 18) rfl rfl (by kernel_rfl) (by rfl) (by rfl) (fun Kx hKx => ?_) (fun Kx hKx => ?_)
          · go_simp
            refine hKx.out _ _ ?_ (fun hHeld => ?_)
            · (try dsimp only); exact KK.out _ (below_new BV.out _)
            clear hKx Kx
            try simp only [Act.put, List.setIfInBounds_toArray, List.set_cons_zero, List.set_cons_succ]
            replace BV := Lib.hid (below_new BV.out (.cells #[.string ⟨#[]⟩, .string ⟨#[32, 100, 97, 121]⟩, .string ⟨#[32, 119, 101, 101, 107]⟩, .string ⟨#[32, 109, 111, 110, 116, 104]⟩, .string ⟨#[32, 121, 101, 97, 114]⟩] 9))
            have A4 := Lib.hid (At.new V2 (.cells #[.string ⟨#[]⟩, .string ⟨#[32, 100, 97, 121]⟩, .string ⟨#[32, 119, 101, 101, 107]⟩, .string ⟨#[32, 109, 111, 110, 116, 104]⟩, .string ⟨#[32, 121, 101, 97, 114]⟩] 9))
            obtain ⟨Z4, hZ4⟩ : ∃ Z, Z = V2.heap.size := ⟨_, rfl⟩
            rw [← hZ4] at A4 ⊢
            clear hZ4
            generalize World.alloc V2 _ = V3 at BV hHeld A4 ⊢
            refine lex_take (i := 7) (v := ?_) rfl (by kernel_rfl) (by kernel_rfl) (by kernel_rfl) (fun _ _ _ h => h) (by rfl) ?_ (by assumption) ?_
            rotate_left
            · (intro w hSw; (try dsimp only at hSw); go_simp; try with_reducible rfl)
            try simp only [Act.put, List.setIfInBounds_toArray, List.set_cons_zero, List.set_cons_succ]
            refine lex_n2 (i := 8) (j := 18) rfl rfl (by kernel_rfl) (by rfl) (by rfl) (fun Kx hKx => ?_) (fun Kx hKx => ?_)
            · have c4 : V3.cell? ⟨Z4, k, none⟩ = some (.string ⟨US.toArray⟩) := (A4.out.cell k).trans HUC.out
              go_simp
              try go_wp2_with fail
              refine hKx.out _ _ ?_ (fun hHeld => ?_)
              · (try dsimp only); exact KK.out _ (BV.out)
              clear hKx Kx
              try simp only [Act.put, List.setIfInBounds_toArray, List.set_cons_zero, List.set_cons_succ]
              clear c4
              obtain ⟨V4, hV4⟩ : ∃ X, X = V3 := ⟨_, rfl⟩
              rw [← hV4] at BV A4 hHeld ⊢
              clear hV4
              refine lex_take (i := 9) (v := ?_) rfl (by kernel_rfl) (by kernel_rfl) (by kernel_rfl) (fun _ _ _ h => h) (by rfl) ?_ (by assumption) ?_
              rotate_left
              · (intro w hSw; (try dsimp only at hSw); go_simp; try with_reducible rfl)
              try simp only [Act.put, List.setIfInBounds_toArray, List.set_cons_zero, List.set_cons_succ]
              refine lex_take (i := 10) (v := ?_) rfl (by kernel_rfl) (by kernel_rfl) (by kernel_rfl) (fun _ _ _ h => h) (by rfl) ?_ (by assumption) ?_
              rotate_left
              · (intro w hSw; (try dsimp only at hSw); go_simp; try with_reducible rfl)
              try simp only [Act.put, List.setIfInBounds_toArray, List.set_cons_zero, List.set_cons_succ]
              refine lex_take (i := 14) (v := ?_) rfl (by kernel_rfl) (by kernel_rfl) (by kernel_rfl) (fun _ _ _ h => h) (by rfl) ?_ (by assumption) ?_
              rotate_left
              · (intro w hSw; (try dsimp only at hSw); go_simp; try with_reducible rfl)
              try simp only [Act.put, List.setIfInBounds_toArray, List.set_cons_zero, List.set_cons_succ]
              refine lex_take (i := 15) (v := ?_) rfl (by kernel_rfl) (by kernel_rfl) (by kernel_rfl) (fun _ _ _ h => h) (by rfl) ?_ (by assumption) ?_
              rotate_left
              · (intro w hSw; (try dsimp only at hSw); go_simp; try with_reducible rfl)
              try simp only [Act.put, List.setIfInBounds_toArray, List.set_cons_zero, List.set_cons_succ]
              refine lex_step (i := 18) rfl (by kernel_rfl) (by rfl) (fun Kx hKx => ?_)
              (go_simp; go_at_call 19; (with_reducible refine (CIU.out _ BV.out).mono ?_); rintro e V5 ⟨rfl, hb⟩; try go_wp2_with fail)
              refine hKx.out _ _ ?_ (fun hHeld => ?_)
              · (try dsimp only); exact KK.out _ (below_then BV.out hb)
              clear hKx Kx
              try simp only [Act.put, List.setIfInBounds_toArray, List.set_cons_zero, List.set_cons_succ]
              replace A4 := Lib.hid (A4.out.then_ hb)
              replace BV := Lib.hid (below_then BV.out hb)
              clear hb
              refine lex_take (i := 19) (v := ?_) rfl (by kernel_rfl) (by kernel_rfl) (by kernel_rfl) (fun _ _ _ h => h) (by rfl) ?_ (by assumption) ?_
              rotate_left
              · (intro w hSw; (try dsimp only at hSw); go_simp; try with_reducible rfl)
              try simp only [Act.put, List.setIfInBounds_toArray, List.set_cons_zero, List.set_cons_succ]
              refine lex_take (i := 20) (v := ?_) rfl (by kernel_rfl) (by kernel_rfl) (by kernel_rfl) (fun _ _ _ h => h) (by rfl) ?_ (by assumption) ?_
              rotate_left
              · (intro w hSw; (try dsimp only at hSw); go_simp; try with_reducible rfl)
              try simp only [Act.put, List.setIfInBounds_toArray, List.set_cons_zero, List.set_cons_succ]
              exact hj Z4 V5 BV.out
            · (go_simp; go_at_call 19; (with_reducible refine (CIU.out _ BV.out).mono ?_); rintro e V4 ⟨rfl, hb⟩; try go_wp2_with fail)
              refine hKx.out _ _ ?_ (fun hHeld => ?_)
              · (try dsimp only); exact KK.out _ (below_then BV.out hb)
              clear hKx Kx
              try simp only [Act.put, List.setIfInBounds_toArray, List.set_cons_zero, List.set_cons_succ]
              replace A4 := Lib.hid (A4.out.then_ hb)
              replace BV := Lib.hid (below_then BV.out hb)
              clear hb
              refine lex_step (i := 8) rfl (by kernel_rfl) (by rfl) (fun Kx hKx => ?_)
              have c4 : V4.cell? ⟨Z4, k, none⟩ = some (.string ⟨US.toArray⟩) := (A4.out.cell k).trans HUC.out
              go_simp
              try go_wp2_with fail
              refine hKx.out _ _ ?_ (fun hHeld => ?_)
              · (try dsimp only); exact KK.out _ (BV.out)
              clear hKx Kx
              try simp only [Act.put, List.setIfInBounds_toArray, List.set_cons_zero, List.set_cons_succ]
              clear c4
              obtain ⟨V5, hV5⟩ : ∃ X, X = V4 := ⟨_, rfl⟩
              rw [← hV5] at BV A4 hHeld ⊢
              clear hV5
              refine lex_take (i := 9) (v := ?_) rfl (by kernel_rfl) (by kernel_rfl) (by kernel_rfl) (fun _ _ _ h => h) (by rfl) ?_ (by assumption) ?_
              rotate_left
              · (intro w hSw; (try dsimp only at hSw); go_simp; try with_reducible rfl)
              try simp only [Act.put, List.setIfInBounds_toArray, List.set_cons_zero, List.set_cons_succ]
              refine lex_take (i := 10) (v := ?_) rfl (by kernel_rfl) (by kernel_rfl) (by kernel_rfl) (fun _ _ _ h => h) (by rfl) ?_ (by assumption) ?_
              rotate_left
              · (intro w hSw; (try dsimp only at hSw); go_simp; try with_reducible rfl)
              try simp only [Act.put, List.setIfInBounds_toArray, List.set_cons_zero, List.set_cons_succ]
              refine lex_take (i := 14) (v := ?_) rfl (by kernel_rfl) (by kernel_rfl) (by kernel_rfl) (fun _ _ _ h => h) (by rfl) ?_ (by assumption) ?_
              rotate_left
              · (intro w hSw; (try dsimp only at hSw); go_simp; try with_reducible rfl)
              try simp only [Act.put, List.setIfInBounds_toArray, List.set_cons_zero, List.set_cons_succ]
              refine lex_take (i := 15) (v := ?_) rfl (by kernel_rfl) (by kernel_rfl) (by kernel_rfl) (fun _ _ _ h => h) (by rfl) ?_ (by assumption) ?_
              rotate_left
              · (intro w hSw; (try dsimp only at hSw); go_simp; try with_reducible rfl)
              try simp only [Act.put, List.setIfInBounds_toArray, List.set_cons_zero, List.set_cons_succ]
              refine lex_take (i := 19) (v := ?_) rfl (by kernel_rfl) (by kernel_rfl) (by kernel_rfl) (fun _ _ _ h => h) (by rfl) ?_ (by assumption) ?_
              rotate_left
              · (intro w hSw; (try dsimp only at hSw); go_simp; try with_reducible rfl)
              try simp only [Act.put, List.setIfInBounds_toArray, List.set_cons_zero, List.set_cons_succ]
              refine lex_take (i := 20) (v := ?_) rfl (by kernel_rfl) (by kernel_rfl) (by kernel_rfl) (fun _ _ _ h => h) (by rfl) ?_ (by assumption) ?_
              rotate_left
              · (intro w hSw; (try dsimp only at hSw); go_simp; try with_reducible rfl)
              try simp only [Act.put, List.setIfInBounds_toArray, List.set_cons_zero, List.set_cons_succ]
              exact hj Z4 V5 BV.out
          · (go_simp; go_at_call 19; (with_reducible refine (CIU.out _ BV.out).mono ?_); rintro e V3 ⟨rfl, hb⟩; try go_wp2_with fail)
            refine hKx.out _ _ ?_ (fun hHeld => ?_)
            · (try dsimp only); exact KK.out _ (below_then BV.out hb)
            clear hKx Kx
            try simp only [Act.put, List.setIfInBounds_toArray, List.set_cons_zero, List.set_cons_succ]
            replace BV := Lib.hid (below_then BV.out hb)
            clear hb
            refine lex_step (i := 4) rfl (by kernel_rfl) (by rfl) (fun Kx hKx => ?_)
            go_simp
            refine hKx.out _ _ ?_ (fun hHeld => ?_)
            · (try dsimp only); exact KK.out _ (below_new BV.out _)
            clear hKx Kx
            try simp only [Act.put, List.setIfInBounds_toArray, List.set_cons_zero, List.set_cons_succ]
            replace BV := Lib.hid (below_new BV.out (.cells #[.string ⟨#[]⟩, .string ⟨#[32, 100, 97, 121]⟩, .string ⟨#[32, 119, 101, 101, 107]⟩, .string ⟨#[32, 109, 111, 110, 116, 104]⟩, .string ⟨#[32, 121, 101, 97, 114]⟩] 9))
            have A4 := Lib.hid (At.new V3 (.cells #[.string ⟨#[]⟩, .string ⟨#[32, 100, 97, 121]⟩, .string ⟨#[32, 119, 101, 101, 107]⟩, .string ⟨#[32, 109, 111, 110, 116, 104]⟩, .string ⟨#[32, 121, 101, 97, 114]⟩] 9))
            obtain ⟨Z4, hZ4⟩ : ∃ Z, Z = V3.heap.size := ⟨_, rfl⟩
            rw [← hZ4] at A4 ⊢
            clear hZ4
            generalize World.alloc V3 _ = V4 at BV hHeld A4 ⊢
            refine lex_take (i := 7) (v := ?_) rfl (by kernel_rfl) (by kernel_rfl) (by kernel_rfl) (fun _ _ _ h => h) (by rfl) ?_ (by assumption) ?_
            rotate_left
            · (intro w hSw; (try dsimp only at hSw); go_simp; try with_reducible rfl)
            try simp only [Act.put, List.setIfInBounds_toArray, List.set_cons_zero, List.set_cons_succ]
            refine lex_step (i := 8) rfl (by kernel_rfl) (by rfl) (fun Kx hKx => ?_)
            have c4 : V4.cell? ⟨Z4, k, none⟩ = some (.string ⟨US.toArray⟩) := (A4.out.cell k).trans HUC.out
            go_simp
            try go_wp2_with fail
            refine hKx.out _ _ ?_ (fun hHeld => ?_)
            · (try dsimp only); exact KK.out _ (BV.out)
            clear hKx Kx
            try simp only [Act.put, List.setIfInBounds_toArray, List.set_cons_zero, List.set_cons_succ]
            clear c4
            obtain ⟨V5, hV5⟩ : ∃ X, X = V4 := ⟨_, rfl⟩
            rw [← hV5] at BV A4 hHeld ⊢
            clear hV5
            refine lex_take (i := 9) (v := ?_) rfl (by kernel_rfl) (by kernel_rfl) (by kernel_rfl) (fun _ _ _ h => h) (by rfl) ?_ (by assumption) ?_
            rotate_left
            · (intro w hSw; (try dsimp only at hSw); go_simp; try with_reducible rfl)
            try simp only [Act.put, List.setIfInBounds_toArray, List.set_cons_zero, List.set_cons_succ]
            refine lex_take (i := 10) (v := ?_) rfl (by kernel_rfl) (by kernel_rfl) (by kernel_rfl) (fun _ _ _ h => h) (by rfl) ?_ (by assumption) ?_
            rotate_left
            · (intro w hSw; (try dsimp only at hSw); go_simp; try with_reducible rfl)
            try simp only [Act.put, List.setIfInBounds_toArray, List.set_cons_zero, List.set_cons_succ]
            refine lex_take (i := 14) (v := ?_) rfl (by kernel_rfl) (by kernel_rfl) (by kernel_rfl) (fun _ _ _ h => h) (by rfl) ?_ (by assumption) ?_
            rotate_left
            · (intro w hSw; (try dsimp only at hSw); go_simp; try with_reducible rfl)
            try simp only [Act.put, List.setIfInBounds_toArray, List.set_cons_zero, List.set_cons_succ]
            refine lex_take (i := 15) (v := ?_) rfl (by kernel_rfl) (by kernel_rfl) (by kernel_rfl) (fun _ _ _ h => h) (by rfl) ?_ (by assumption) ?_
            rotate_left
            · (intro w hSw; (try dsimp only at hSw); go_simp; try with_reducible rfl)
            try simp only [Act.put, List.setIfInBounds_toArray, List.set_cons_zero, List.set_cons_succ]
            refine lex_take (i := 19) (v := ?_) rfl (by kernel_rfl) (by kernel_rfl) (by kernel_rfl) (fun _ _ _ h => h) (by rfl) ?_ (by assumption) ?_
            rotate_left
            · (intro w hSw; (try dsimp only at hSw); go_simp; try with_reducible rfl)
            try simp only [Act.put, List.setIfInBounds_toArray, List.set_cons_zero, List.set_cons_succ]
            refine lex_take (i := 20) (v := ?_) rfl (by kernel_rfl) (by kernel_rfl) (by kernel_rfl) (fun _ _ _ h => h) (by rfl) ?_ (by assumption) ?_
            rotate_left
            · (intro w hSw; (try dsimp only at hSw); go_simp; try with_reducible rfl)
            try simp only [Act.put, List.setIfInBounds_toArray, List.set_cons_zero, List.set_cons_succ]
            exact hj Z4 V5 BV.out
      · go_simp
        refine hKx.out _ _ ?_ (fun hHeld => ?_)
        · (try dsimp only); exact KK.out _ (below_new BV.out _)
        clear hKx Kx
        try simp only [Act.put, List.setIfInBounds_toArray, List.set_cons_zero, List.set_cons_succ]
        replace BV := Lib.hid (below_new BV.out (.cells #[.string ⟨#[]⟩, .string ⟨#[32, 100, 97, 121]⟩, .string ⟨#[32, 119, 101, 101, 107]⟩, .string ⟨#[32, 109, 111, 110, 116, 104]⟩, .string ⟨#[32, 121, 101, 97, 114]⟩] 9))
        have A4 := Lib.hid (At.new V0 (.cells #[.string ⟨#[]⟩, .string ⟨#[32, 100, 97, 121]⟩, .string ⟨#[32, 119, 101, 101, 107]⟩, .string ⟨#[32, 109, 111, 110, 116, 104]⟩, .string ⟨#[32, 121, 101, 97, 114]⟩] 9))
        obtain ⟨Z4, hZ4⟩ : ∃ Z, Z = V0.heap.size := ⟨_, rfl⟩
        rw [← hZ4] at A4 ⊢
        clear hZ4
        generalize World.alloc V0 _ = V1 at BV hHeld A4 ⊢
        refine lex_take (i := 7) (v := ?_) rfl (by kernel_rfl) (by kernel_rfl) (by kernel_rfl) (fun _ _ _ h => h) (by rfl) ?_ (by assumption) ?_
        rotate_left
        · (intro w hSw; (try dsimp only at hSw); go_simp; try with_reducible rfl)
        try simp only [Act.put, List.setIfInBounds_toArray, List.set_cons_zero, List.set_cons_succ]
        refine lex_n2 (i := 2) (j := 8) rfl rfl (by kernel_rfl) (by rfl) (by rfl) (fun Kx hKx => ?_) (fun Kx hKx => ?_)
        · (go_simp; go_at_call 19; (with_reducible refine (CIE.out _ BV.out).mono ?_); rintro e V2 ⟨rfl, hb⟩; try go_wp2_with fail)
          refine hKx.out _ _ ?_ (fun hHeld => ?_)
          · (try dsimp only); exact KK.out _ (below_then BV.out hb)
          clear hKx Kx
          try simp only [Act.put, List.setIfInBounds_toArray, List.set_cons_zero, List.set_cons_succ]
          replace A4 := Lib.hid (A4.out.then_ hb)
          replace BV := Lib.hid (below_then BV.out hb)
          clear hb
          refine lex_take (i := 3) (v := ?_) rfl (by kernel_rfl) (by kernel_rfl) (by kernel_rfl) (fun _ _ _ h => h) (by rfl) ?_ (by assumption) ?_
          rotate_left
          · (intro w hSw; (try dsimp only at hSw); go_simp; try with_reducible rfl)
          try simp only [Act.put, List.setIfInBounds_toArray, List.set_cons_zero, List.set_cons_succ]
          refine lex_n2 (i := 8) (j := 13) rfl rfl (by kernel_rfl) (by rfl) (by rfl) (fun Kx hKx => ?_) (fun Kx hKx => ?_)
          · have c4 : V2.cell? ⟨Z4, k, none⟩ = some (.string ⟨US.toArray⟩) := (A4.out.cell k).trans HUC.out
            go_simp
            try go_wp2_with fail
            refine hKx.out _ _ ?_ (fun hHeld => ?_)
            · (try dsimp only); exact KK.out _ (BV.out)
            clear hKx Kx
            try simp only [Act.put, List.setIfInBounds_toArray, List.set_cons_zero, List.set_cons_succ]
            clear c4
            obtain ⟨V3, hV3⟩ : ∃ X, X = V2 := ⟨_, rfl⟩
            rw [← hV3] at BV A4 hHeld ⊢
            clear hV3
            refine lex_take (i := 9) (v := ?_) rfl (by kernel_rfl) (by kernel_rfl) (by kernel_rfl) (fun _ _ _ h => h) (by rfl) ?_ (by assumption) ?_
            rotate_left
            · (intro w hSw; (try dsimp only at hSw); go_simp; try with_reducible rfl)
            try simp only [Act.put, List.setIfInBounds_toArray, List.set_cons_zero, List.set_cons_succ]
            refine lex_take (i := 10) (v := ?_) rfl (by kernel_rfl) (by kernel_rfl) (by kernel_rfl) (fun _ _ _ h => h) (by rfl) ?_ (by assumption) ?_
            rotate_left
            · (intro w hSw; (try dsimp only at hSw); go_simp; try with_reducible rfl)
            try simp only [Act.put, List.setIfInBounds_toArray, List.set_cons_zero, List.set_cons_succ]
            refine lex_step (i := 13) rfl (by kernel_rfl) (by rfl) (fun Kx hKx => ?_)
            (go_simp; go_at_call 19; (with_reducible refine (CIF.out _ BV.out).mono ?_); rintro e V4 ⟨rfl, hb⟩; try go_wp2_with fail)
            refine hKx.out _ _ ?_ (fun hHeld => ?_)
            · (try dsimp only); exact KK.out _ (below_then BV.out hb)
            clear hKx Kx
            try simp only [Act.put, List.setIfInBounds_toArray, List.set_cons_zero, List.set_cons_succ]
            replace A4 := Lib.hid (A4.out.then_ hb)
            replace BV := Lib.hid (below_then BV.out hb)
            clear hb
            refine lex_take (i := 14) (v := ?_) rfl (by kernel_rfl) (by kernel_rfl) (by kernel_rfl) (fun _ _ _ h => h) (by rfl) ?_ (by assumption) ?_
            rotate_left
            · (intro w hSw; (try dsimp only at hSw); go_simp; try with_reducible rfl)
            try simp only [Act.put, List.setIfInBounds_toArray, List.set_cons_zero, List.set_cons_succ]
            refine lex_take (i := 15) (v := ?_) rfl (by kernel_rfl) (by kernel_rfl) (by kernel_rfl) (fun _ _ _ h => h) (by rfl) ?_ (by assumption) ?_
            rotate_left
            · (intro w hSw; (try dsimp only at hSw); go_simp; try with_reducible rfl)
            try simp only [Act.put, List.setIfInBounds_toArray, List.set_cons_zero, List.set_cons_succ]
            refine lex_step (i := 18) rfl (by kernel_rfl) (by rfl) (fun Kx hKx => ?_)
            (go_simp; go_at_call 19; (with_reducible refine (CIU.out _ BV.out).mono ?_); rintro e V5 ⟨rfl, hb⟩; try go_wp2_with fail)
            refine hKx.out _ _ ?_ (fun hHeld => ?_)
            · (try dsimp only); exact KK.out _ (below_then BV.out hb)
            clear hKx Kx
            try simp only [Act.put, List.setIfInBounds_toArray, List.set_cons_zero, List.set_cons_succ]
            replace A4 := Lib.hid (A4.out.then_ hb)
            replace BV := Lib.hid (below_then BV.out hb)
            clear hb
            refine lex_take (i := 19) (v := ?_) rfl (by kernel_rfl) (by kernel_rfl) (by kernel_rfl) (fun _ _ _ h => h) (by rfl) ?_ (by assumption) ?_
            rotate_left
            · (intro w hSw; (try dsimp only at hSw); go_simp; try with_reducible rfl)
            try simp only [Act.put, List.setIfInBounds_toArray, List.set_cons_zero, List.set_cons_succ]
            refine lex_take (i := 20) (v := ?_) rfl (by kernel_rfl) (by kernel_rfl) (by kernel_rfl) (fun _ _ _ h => h) (by rfl) ?_ (by assumption) ?_
            rotate_left
            · (intro w hSw; (try dsimp only at hSw); go_simp; try with_reducible rfl)
            try simp only [Act.put, List.setIfInBounds_toArray, List.set_cons_zero, List.set_cons_succ]
            exact hj Z4 V5 BV.out
          · (go_simp; go_at_call 19; (with_reducible refine (CIF.out _ BV.out).mono ?_); rintro e V3 ⟨rfl, hb⟩; try go_wp2_with fail)
            refine hKx.out _ _ ?_ (fun hHeld => ?_)
            · (try dsimp only); exact KK.out _ (below_then BV.out hb)
            clear hKx Kx
            try simp only [Act.put, List.setIfInBounds_toArray, List.set_cons_zero, List.set_cons_succ]
            replace A4 := Lib.hid (A4.out.then_ hb)
            replace BV := Lib.hid (below_then BV.out hb)
            clear hb
            refine lex_n2 (i := 8) (j := 18) rfl rfl (by kernel_rfl) (by rfl) (by rfl) (fun Kx hKx => ?_) (fun Kx hKx => ?_)
            · have c4 : V3.cell? ⟨Z4, k, none⟩ = some (.string ⟨US.toArray⟩) := (A4.out.cell k).trans HUC.out
              go_simp
              try go_wp2_with fail
              refine hKx.out _ _ ?_ (fun hHeld => ?_)
              · (try dsimp only); exact KK.out _ (BV.out)
              clear hKx Kx
              try simp only [Act.put, List.setIfInBounds_toArray, List.set_cons_zero, List.set_cons_succ]
              clear c4
              obtain ⟨V4, hV4⟩ : ∃ X, X = V3 := ⟨_, rfl⟩
              rw [← hV4] at BV A4 hHeld ⊢
              clear hV4
              refine lex_take (i := 9) (v := ?_) rfl (by kernel_rfl) (by kernel_rfl) (by kernel_rfl) (fun _ _ _ h => h) (by rfl) ?_ (by assumption) ?_
              rotate_left
              · (intro w hSw; (try dsimp only at hSw); go_simp; try with_reducible rfl)
              try simp only [Act.put, List.setIfInBounds_toArray, List.set_cons_zero, List.set_cons_succ]
              refine lex_take (i := 10) (v := ?_) rfl (by kernel_rfl) (by kernel_rfl) (by kernel_rfl) (fun _ _ _ h => h) (by rfl) ?_ (by assumption) ?_
              rotate_left
              · (intro w hSw; (try dsimp only at hSw); go_simp; try with_reducible rfl)
              try simp only [Act.put, List.setIfInBounds_toArray, List.set_cons_zero, List.set_cons_succ]
              refine lex_take (i := 14) (v := ?_) rfl (by kernel_rfl) (by kernel_rfl) (by kernel_rfl) (fun _ _ _ h => h) (by rfl) ?_ (by assumption) ?_
              rotate_left
              · (intro w hSw; (try dsimp only at hSw); go_simp; try with_reducible rfl)
              try simp only [Act.put, List.setIfInBounds_toArray, List.set_cons_zero, List.set_cons_succ]
              refine lex_take (i := 15) (v := ?_) rfl (by kernel_rfl) (by kernel_rfl) (by kernel_rfl) (fun _ _ _ h => h) (by rfl) ?_ (by assumption) ?_
              rotate_left
              · (intro w hSw; (try dsimp only at hSw); go_simp; try with_reducible rfl)
              try simp only [Act.put, List.setIfInBounds_toArray, List.set_cons_zero, List.set_cons_succ]
              refine lex_step (i := 18) rfl (by kernel_rfl) (by rfl) (fun Kx hKx => ?_)
              (go_simp; go_at_call 19; (with_reducible refine (CIU.out _ BV.out).mono ?_); rintro e V5 ⟨rfl, hb⟩; try go_wp2_with fail)
              refine hKx.out _ _ ?_ (fun hHeld => ?_)
              · (try dsimp only); exact KK.out _ (below_then BV.out hb)
              clear hKx Kx
              try simp only [Act.put, List.setIfInBounds_toArray, List.set_cons_zero, List.set_cons_succ]
              replace A4 := Lib.hid (A4.out.then_ hb)
              replace BV := Lib.hid (below_then BV.out hb)
              clear hb
              refine lex_take (i := 19) (v := ?_) rfl (by kernel_rfl) (by kernel_rfl) (by kernel_rfl) (fun _ _ _ h => h) (by rfl) ?_ (by assumption) ?_
              rotate_left
              · (intro w hSw; (try dsimp only at hSw); go_simp; try with_reducible rfl)
              try simp only [Act.put, List.setIfInBounds_toArray, List.set_cons_zero, List.set_cons_succ]
              refine lex_take (i := 20) (v := ?_) rfl (by kernel_rfl) (by kernel_rfl) (by kernel_rfl) (fun _ _ _ h => h) (by rfl) ?_ (by assumption) ?_
              rotate_left
              · (intro w hSw; (try dsimp only at hSw); go_simp; try with_reducible rfl)
              try simp only [Act.put, List.setIfInBounds_toArray, List.set_cons_zero, List.set_cons_succ]
              exact hj Z4 V5 BV.out
            · (go_simp; go_at_call 19; (with_reducible refine (CIU.out _ BV.out).mono ?_); rintro e V4 ⟨rfl, hb⟩; try go_wp2_with fail)
              refine hKx.out _ _ ?_ (fun hHeld => ?_)
              · (try dsimp only); exact KK.out _ (below_then BV.out hb)
              clear hKx Kx
              try simp only [Act.put, List.setIfInBounds_toArray, List.set_cons_zero, List.set_cons_succ]
              replace A4 := Lib.hid (A4.out.then_ hb)
              replace BV := Lib.hid (below_then BV.out hb)
              clear hb
              refine lex_step (i := 8) rfl (by kernel_rfl) (by rfl) (fun Kx hKx => ?_)
              have c4 : V4.cell? ⟨Z4, k, none⟩ = some (.string ⟨US.toArray⟩) := (A4.out.cell k).trans HUC.out
              go_simp
              try go_wp2_with fail
              refine hKx.out _ _ ?_ (fun hHeld => ?_)
              · (try dsimp only); exact KK.out _ (BV.out)
              clear hKx Kx
              try simp only [Act.put, List.setIfInBounds_toArray, List.set_cons_zero, List.set_cons_succ]
              clear c4
              obtain ⟨V5, hV5⟩ : ∃ X, X = V4 := ⟨_, rfl⟩
              rw [← hV5] at BV A4 hHeld ⊢
              clear hV5
              refine lex_take (i := 9) (v := ?_) rfl (by kernel_rfl) (by kernel_rfl) (by kernel_rfl) (fun _ _ _ h => h) (by rfl) ?_ (by assumption) ?_
              rotate_left
              · (intro w hSw; (try dsimp only at hSw); go_simp; try with_reducible rfl)
              try simp only [Act.put, List.setIfInBounds_toArray, List.set_cons_zero, List.set_cons_succ]
              refine lex_take (i := 10) (v := ?_) rfl (by kernel_rfl) (by kernel_rfl) (by kernel_rfl) (fun _ _ _ h => h) (by rfl) ?_ (by assumption) ?_
              rotate_left
              · (intro w hSw; (try dsimp only at hSw); go_simp; try with_reducible rfl)
              try simp only [Act.put, List.setIfInBounds_toArray, List.set_cons_zero, List.set_cons_succ]
              refine lex_take (i := 14) (v := ?_) rfl (by kernel_rfl) (by kernel_rfl) (by kernel_rfl) (fun _ _ _ h => h) (by rfl) ?_ (by assumption) ?_
              rotate_left
              · (intro w hSw; (try dsimp only at hSw); go_simp; try with_reducible rfl)
              try simp only [Act.put, List.setIfInBounds_toArray, List.set_cons_zero, List.set_cons_succ]
              refine lex_take (i := 15) (v := ?_) rfl (by kernel_rfl) (by kernel_rfl) (by kernel_rfl) (fun _ _ _ h => h) (by rfl) ?_ (by assumption) ?_
              rotate_left
              · (intro w hSw; (try dsimp only at hSw); go_simp; try with_reducible rfl)
              try simp only [Act.put, List.setIfInBounds_toArray, List.set_cons_zero, List.set_cons_succ]
              refine lex_take (i := 19) (v := ?_) rfl (by kernel_rfl) (by kernel_rfl) (by kernel_rfl) (fun _ _ _ h => h) (by rfl) ?_ (by assumption) ?_
              rotate_left
              · (intro w hSw; (try dsimp only at hSw); go_simp; try with_reducible rfl)
              try simp only [Act.put, List.setIfInBounds_toArray, List.set_cons_zero, List.set_cons_succ]
              refine lex_take (i := 20) (v := ?_) rfl (by kernel_rfl) (by kernel_rfl) (by kernel_rfl) (fun _ _ _ h => h) (by rfl) ?_ (by assumption) ?_
              rotate_left
              · (intro w hSw; (try dsimp only at hSw); go_simp; try with_reducible rfl)
              try simp only [Act.put, List.setIfInBounds_toArray, List.set_cons_zero, List.set_cons_succ]
              exact hj Z4 V5 BV.out
        · have c4 : V1.cell? ⟨Z4, k, none⟩ = some (.string ⟨US.toArray⟩) := (A4.out.cell k).trans HUC.out
          go_simp
          try go_wp2_with fail
          refine hKx.out _ _ ?_ (fun hHeld => ?_)
          · (try dsimp only); exact KK.out _ (BV.out)
          clear hKx Kx
          try simp only [Act.put, List.setIfInBounds_toArray, List.set_cons_zero, List.set_cons_succ]
          clear c4
          obtain ⟨V2, hV2⟩ : ∃ X, X = V1 := ⟨_, rfl⟩
          rw [← hV2] at BV A4 hHeld ⊢
          clear hV2
          refine lex_step (i := 2) rfl (by kernel_rfl) (by rfl) (fun Kx hKx => ?_)
          (go_simp; go_at_call 19; (with_reducible refine (CIE.out _ BV.out).mono ?_); rintro e V3 ⟨rfl, hb⟩; try go_wp2_with fail)
          refine hKx.out _ _ ?_ (fun hHeld => ?_)
          · (try dsimp only); exact KK.out _ (below_then BV.out hb)
          clear hKx Kx
          try simp only [Act.put, List.setIfInBounds_toArray, List.set_cons_zero, List.set_cons_succ]
          replace A4 := Lib.hid (A4.out.then_ hb)
          replace BV := Lib.hid (below_then BV.out hb)
          clear hb
          refine lex_take (i := 3) (v := ?_) rfl (by kernel_rfl) (by kernel_rfl) (by kernel_rfl) (fun _ _ _ h => h) (by rfl) ?_ (by assumption) ?_
          rotate_left
          · (intro w hSw; (try dsimp only at hSw); go_simp; try with_reducible rfl)
          try simp only [Act.put, List.setIfInBounds_toArray, List.set_cons_zero, List.set_cons_succ]
          refine lex_take (i := 9) (v := ?_) rfl (by kernel_rfl) (by kernel_rfl) (by kernel_rfl) (fun _ _ _ h => h) (by rfl) ?_ (by assumption) ?_
          rotate_left
          · (intro w hSw; (try dsimp only at hSw); go_simp; try with_reducible rfl)
          try simp only [Act.put, List.setIfInBounds_toArray, List.set_cons_zero, List.set_cons_succ]
          refine lex_take (i := 10) (v := ?_) rfl (by kernel_rfl) (by kernel_rfl) (by kernel_rfl) (fun _ _ _ h => h) (by rfl) ?_ (by assumption) ?_
          rotate_left
          · (intro w hSw; (try dsimp only at hSw); go_simp; try with_reducible rfl)
          try simp only [Act.put, List.setIfInBounds_toArray, List.set_cons_zero, List.set_cons_succ]
          refine lex_step (i := 13) rfl (by kernel_rfl) (by rfl) (fun Kx hKx => ?_)
          (go_simp; go_at_call 19; (with_reducible refine (CIF.out _ BV.out).mono ?_); rintro e V4 ⟨rfl, hb⟩; try go_wp2_with fail)
          refine hKx.out _ _ ?_ (fun hHeld => ?_)
          · (try dsimp only); exact KK.out _ (below_then BV.out hb)
          clear hKx Kx
          try simp only [Act.put, List.setIfInBounds_toArray, List.set_cons_zero, List.set_cons_succ]
          replace A4 := Lib.hid (A4.out.then_ hb)
          replace BV := Lib.hid (below_then BV.out hb)
          clear hb
          refine lex_take (i := 14) (v := ?_) rfl (by kernel_rfl) (by kernel_rfl) (by kernel_rfl) (fun _ _ _ h => h) (by rfl) ?_ (by assumption) ?_
          rotate_left
          · (intro w hSw; (try dsimp only at hSw); go_simp; try with_reducible rfl)
          try simp only [Act.put, List.setIfInBounds_toArray, List.set_cons_zero, List.set_cons_succ]
          refine lex_take (i := 15) (v := ?_) rfl (by kernel_rfl) (by kernel_rfl) (by kernel_rfl) (fun _ _ _ h => h) (by rfl) ?_ (by assumption) ?_
          rotate_left
          · (intro w hSw; (try dsimp only at hSw); go_simp; try with_reducible rfl)
          try simp only [Act.put, List.setIfInBounds_toArray, List.set_cons_zero, List.set_cons_succ]
          refine lex_step (i := 18) rfl (by kernel_rfl) (by rfl) (fun Kx hKx => ?_)
          (go_simp; go_at_call 19; (with_reducible refine (CIU.out _ BV.out).mono ?_); rintro e V5 ⟨rfl, hb⟩; try go_wp2_with fail)
          refine hKx.out _ _ ?_ (fun hHeld => ?_)
          · (try dsimp only); exact KK.out _ (below_then BV.out hb)
          clear hKx Kx
          try simp only [Act.put, List.setIfInBounds_toArray, List.set_cons_zero, List.set_cons_succ]
          replace A4 := Lib.hid (A4.out.then_ hb)
          replace BV := Lib.hid (below_then BV.out hb)
          clear hb
          refine lex_take (i := 19) (v := ?_) rfl (by kernel_rfl) (by kernel_rfl) (by kernel_rfl) (fun _ _ _ h => h) (by rfl) ?_ (by assumption) ?_
          rotate_left
          · (intro w hSw; (try dsimp only at hSw); go_simp; try with_reducible rfl)
          try simp only [Act.put, List.setIfInBounds_toArray, List.set_cons_zero, List.set_cons_succ]
          refine lex_take (i := 20) (v := ?_) rfl (by kernel_rfl) (by kernel_rfl) (by kernel_rfl) (fun _ _ _ h => h) (by rfl) ?_ (by assumption) ?_
          rotate_left
          · (intro w hSw; (try dsimp only at hSw); go_simp; try with_reducible rfl)
          try simp only [Act.put, List.setIfInBounds_toArray, List.set_cons_zero, List.set_cons_succ]
          exact hj Z4 V5 BV.out
    · intro Z4 V5 hbv
      refine wpAnyH_done (by kernel_rfl) ?_ _
      go_wp2_with fail
      go_meet
      case rel => exact ⟨rfl, hbv⟩
  case rest =>
  obtain ⟨rfl, hb2⟩ := hcut
  clear p1 p3 p4 p5 p6 p7 IE IF IU HE HF HUN CIE CIF CIU
  obtain ⟨W2, rfl⟩ : ∃ q, q = wc := ⟨_, rfl⟩
  have B2 := Lib.hid hb2
  have t2 := T1.out.then_ hb2
  have z0 := t2.cell 0; have z1 := t2.cell 1; have z2 := t2.cell 2; have z3 := t2.cell 3; have z4 := t2.cell 4; have z5 := t2.cell 5; have z6 := t2.cell 6; have z7 := t2.cell 7; simp at z0 z1 z2 z3 z4 z5 z6 z7
  have hTl := t2.lt
  clear t2 hb2
  obtain ⟨Tx, hTx⟩ : ∃ q, q = P ++ glue 32 (timesP cn) := ⟨_, rfl⟩
  have HT := Lib.hid hTx
  have hTx3 : Tx.length ≤ 300 := by
    rw [hTx]
    unfold timesP
    split
    · simp [glue]; omega
    · rw [← HCE.out]; simp [glue]; omega
  rw [← hTx] at HRES
  clear hTx
  go_upto_if 31 with fail
  go_cut [3] from 29 (fun v wx => v = .string ⟨Tx.toArray⟩ ∧ Below W1.heap.size W1 wx)
  case first =>
    by_cases hcz : cn = 0
    · have hcl : ¬ (0 : Int) < cn := by omega
      obtain rfl : Tx = P := by rw [HT.out, timesP, if_pos hcz, glue, List.append_nil]
      clear hcz
      go_wp2_with fail
      go_meet
      case rel => exact ⟨rfl, B2.out⟩
    · have hcl : (0 : Int) < cn := by omega
      have hTP : P ++ ([32, 116, 105, 109, 101, 115, 32] ++ C) = Tx := by rw [HT.out, timesP, if_neg hcz, ← HCE.out]; simp [glue]
      obtain ⟨tc, htc⟩ : ∃ q, q = [32, 116, 105, 109, 101, 115, 32] ++ C := ⟨_, rfl⟩
      have htl : tc.length ≤ 30 := by rw [htc]; simp; omega
      rw [← htc] at hTP
      have p1 := addL [32, 116, 105, 109, 101, 115, 32] C tc htc.symm (by omega)
      have p2 := addL P tc Tx hTP (by omega)
      clear hcz hTP htc
      go_wp2_with (go_at_call 19; refine (CIC.out _ B2.out).mono ?_; rintro e w2 ⟨rfl, hb⟩)
      go_meet
      case rel => exact ⟨rfl, below_then B2.out hb⟩
  case rest =>
  obtain ⟨rfl, hb3⟩ := hcut
  clear z0 z1 z2 z3 z4 z5 z6 z7 hTl B2
  obtain ⟨W3, rfl⟩ : ∃ q, q = wc := ⟨_, rfl⟩
  have B3 := Lib.hid hb3
  have t3 := T1.out.then_ hb3
  have z0 := t3.cell 0; have z1 := t3.cell 1; have z2 := t3.cell 2; have z3 := t3.cell 3; have z4 := t3.cell 4; have z5 := t3.cell 5; have z6 := t3.cell 6; have z7 := t3.cell 7; simp at z0 z1 z2 z3 z4 z5 z6 z7
  have hTl := t3.lt
  clear t3 hb3
  have ACL := Lib.hid (acc_len Tx ws ms ns hTx3 (by omega) (by omega) (by omega))
  clear q1 q2 q3
  go_upto_region 5 with fail
  have y3 := At.new W3 (.cells #[.slice a1 n1 c1, .slice a2 n2 c2, .slice a3 n3 c3] 22)
  have b4 := below_then B1.out (below_new B3.out (.cells #[.slice a1 n1 c1, .slice a2 n2 c2, .slice a3 n3 c3] 22))
  clear z0 z1 z2 z3 z4 z5 z6 z7 hTl B3
  generalize World.alloc W3 _ = W4 at y3 b4 ⊢
  obtain ⟨Z, hZ⟩ : ∃ Z, Z = W3.heap.size := ⟨_, rfl⟩
  rw [← hZ] at y3 ⊢
  clear hZ
  have Y4 := Lib.hid y3; have B4 := Lib.hid b4
  have HQ := Lib.hid (show ∀ q, q < 3 → ∃ a n c, W4.cell? ⟨Z, q, none⟩ = some (.slice a n c) ∧ Ints w w.heap.size a n (listQ ws ms ns q) ∧ n ≤ 4398046511104 from fun q hq => by
    rcases (show q = 0 ∨ q = 1 ∨ q = 2 by omega) with rfl | rfl | rfl
    · exact ⟨a1, n1, c1, y3.cell 0, H1.out, m1⟩
    · exact ⟨a2, n2, c2, y3.cell 1, H2.out, m2⟩
    · exact ⟨a3, n3, c3, y3.cell 2, H3.out, m3⟩)
  have hZl := y3.lt
  clear y3 b4
  go_wp2_with fail
  go_loopw [3, 4, 5, 6, 7, 8, 46] (fun v _ _ _ _ _ vi wr => ∃ q : Nat, q ≤ 3 ∧ vi = .int .i64 q ∧ v = .string ⟨(accT Tx ws ms ns q).toArray⟩ ∧ Below W4.heap.size W4 wr) (fun _ _ _ _ _ _ vi _ => 3 - (intOf vi).toNat)
  case atStart => exact ⟨0, by omega, rfl, rfl, Below.refl _ _⟩
  case round =>
    obtain ⟨q, hq, rfl, rfl, hb5⟩ := hrel
    obtain ⟨W5, rfl⟩ : ∃ X, X = wr := ⟨_, rfl⟩
    by_cases hq3 : q < 3
    · as_aux_lemma =>
      obtain ⟨a, n, c, hcell, hints, hn⟩ := HQ.out q hq3
      have HST := Lib.hid (acc_step Tx ws ms ns q hq3)
      have al := ACL.out q
      have HWC := Lib.hid (word_cell q hq3)
      have hwl := wordQ_len q
      have HLL := Lib.hid hints.1
      have HI := Lib.hid hints
      generalize listQ ws ms ns q = l at HST HLL HI
      obtain ⟨A, hA⟩ : ∃ A, A = accT Tx ws ms ns q := ⟨_, rfl⟩
      rw [← hA] at HST al ⊢
      clear hA hints
      obtain ⟨wd, hwd⟩ : ∃ x, x = wordQ q := ⟨_, rfl⟩
      rw [← hwd] at HST HWC hwl
      clear hwd
      obtain ⟨WS, hWS⟩ : ∃ x, x = [32] ++ wd ++ [32] := ⟨_, rfl⟩
      rw [← hWS] at HWC
      have hWSl : WS.length ≤ 11 := by rw [hWS]; simp; omega
      have HWSD := Lib.hid hWS
      clear hWS
      have cz := (hb5.cell (p := ⟨Z, q, none⟩) hZl).trans hcell
      have hZ5 : Z < W5.heap.size := by have := hb5.size; omega
      have hqI0 : (0 : Int) ≤ (q : Int) := by omega
      have hqI3 : (q : Int) < 3 := by omega
      have B5 := Lib.hid hb5
      clear hb5 hcell
      have hwc := HWC.out
      go_upto_region 8 with fail
      have B6 := Lib.hid (below_new B5.out (.cells #[.string ⟨#[32, 119, 101, 101, 107, 100, 97, 121, 115, 32]⟩, .string ⟨#[32, 109, 111, 110, 116, 104, 100, 97, 121, 115, 32]⟩, .string ⟨#[32, 109, 111, 110, 116, 104, 115, 32]⟩] 9))
      clear cz hwc hZ5 B5
      generalize World.alloc W5 _ = W6 at B6 ⊢
      have HLI := Lib.hid (show ∀ x ∈ l, I64 x from HI.out.2.2.1)
      have hPT := partT_len A wd l HLI.out
      have hll : l.length = n := HLL.out
      have HPL := Lib.hid (show ∀ j, (partT A wd l j).length ≤ 600000000000000 from fun j => by have := hPT j; omega)
      clear hPT hll
      go_wp2_with fail
      go_loopw [3, 6, 7, 8, 57] (fun v vw _ _ vj wr6 => ∃ j : Nat, j ≤ n ∧ vj = .int .i64 j ∧ v = .string ⟨(partT A wd l j).toArray⟩ ∧ vw = .string ⟨(if j ≤ 1 then WS else [44]).toArray⟩ ∧ Below W6.heap.size W6 wr6) (fun _ _ _ _ vj _ => n - (intOf vj).toNat)
      case atStart => exact ⟨0, by omega, rfl, rfl, (by have h := HWC.out; rcases (show q = 0 ∨ q = 1 ∨ q = 2 by omega) with rfl | rfl | rfl <;> simpa using h), Below.refl _ _⟩
      case round =>
        obtain ⟨j, hj, rfl, rfl, rfl, hb7⟩ := hrel
        obtain ⟨W7, rfl⟩ : ∃ X, X = wr := ⟨_, rfl⟩
        have B7 := Lib.hid (below_then B6.out hb7)
        have B7w := Lib.hid (below_then B4.out B7.out)
        have HB7 := Lib.hid hb7
        by_cases hjn : j < n
        · obtain ⟨e1, o1, x, hae, hbe, hce, hx, x1, x2⟩ := (HI.out.below B7w.out (Nat.le_refl _)).at_ hjn
          subst hae
          have hsz7 := B7w.out.size
          have hps := partT_succ A wd l j x hx
          have pl1 := HPL.out j
          have pl2 := HPL.out (j + 1)
          obtain ⟨M, hM⟩ : ∃ M, M = Lib.itoa x := ⟨_, rfl⟩
          have iM : itoaS x = ⟨M.toArray⟩ := by rw [hM]; rfl
          have CX := Lib.hid (show Calls Tryd.prog 19 #[.int .i64 x] W7 fun e w' => e = .returned (.string ⟨M.toArray⟩) ∧ Below W7.heap.size W7 w' from by rw [← iM]; exact CI.out W7 B7w.out x ⟨x1, x2⟩)
          have hMl : M.length ≤ 21 := by rw [hM]; exact itoa_len21 ⟨x1, x2⟩
          rw [← hM] at hps
          obtain ⟨pj, hpj⟩ : ∃ q, q = partT A wd l j := ⟨_, rfl⟩
          obtain ⟨pk, hpk⟩ : ∃ q, q = partT A wd l (j + 1) := ⟨_, rfl⟩
          rw [← hpj, ← hpk] at hps
          rw [← hpj] at pl1 ⊢
          rw [← hpk] at pl2
          have HPK := Lib.hid hpk
          clear hM iM hpj hpk hx
          by_cases hj0 : j = 0
          · subst hj0
            rw [Nat.add_zero] at hce
            rw [if_pos rfl, ← HWSD.out] at hps
            obtain ⟨y, hy⟩ : ∃ q, q = WS ++ M := ⟨_, rfl⟩
            rw [← hy] at hps
            have yl : y.length ≤ 40 := by rw [hy]; simp; omega
            have p1 := addL WS M y hy.symm (by omega)
            have p2 := addL pj y pk hps.symm (by omega)
            clear hy hps
            go_wp2_with (go_at_call 19; refine CX.out.mono ?_; rintro e W8 ⟨rfl, hb8⟩; have B8 := Lib.hid (below_then HB7.out hb8); clear hb8)
            go_roundw
            case rel => exact ⟨1, by omega, by go_num, by rw [HPK.out], rfl, B8.out⟩
            case measure => first | (simp [intOf]; done) | (simp [intOf]; omega)
          · rw [if_neg hj0] at hps
            obtain ⟨y, hy⟩ : ∃ q, q = [44] ++ M := ⟨_, rfl⟩
            rw [← hy] at hps
            have yl : y.length ≤ 40 := by rw [hy]; simp; omega
            have p1 := addL [44] M y hy.symm (by omega)
            have p2 := addL pj y pk hps.symm (by omega)
            have hjp : 0 < j := by omega
            have hjpi : (0 : Int) < (j : Int) := by omega
            clear hy hps hj0
            go_wp2_with (go_at_call 19; refine CX.out.mono ?_; rintro e W8 ⟨rfl, hb8⟩; have B8 := Lib.hid (below_then HB7.out hb8); clear hb8)
            go_roundw
            case rel => exact ⟨j + 1, by omega, by go_num, by rw [HPK.out], by rw [if_neg (by omega)], B8.out⟩
            case measure => first | (simp [intOf]; done) | (simp [intOf]; omega)
        · have hjn' : j = l.length := by rw [HLL.out]; omega
          have HE := Lib.hid (show partT A wd l j = accT Tx ws ms ns (q + 1) by rw [hjn', partT_end, HST.out])
          rw [HE.out]
          clear hjn' hb7
          go_wp2_with fail
          go_roundw
          case rel => exact ⟨q + 1, by omega, by go_num, rfl, B7.out⟩
          case measure => first | (simp [intOf]; done) | (simp [intOf]; omega)
    · obtain rfl : q = 3 := by omega
      have hR : accT Tx ws ms ns 3 = RES := by rw [HRES.out]; rfl
      rw [hR]
      have BE := Lib.hid (below_then B4.out hb5)
      clear hR hb5
      go_wp2_with fail
      go_ret
      exact ⟨rfl, BE.out⟩
end Go.Proofs.YtdmkghgachapaaaDoor
