/- Contract of frac.Near. -/
import Derived.Test.YtnepdfglhngheaaNear2
import Derived.Test.YtnepdfglhngheaaStore
import Derived.Deep.CutRange
namespace Go.Proofs.Ytnepdfglhngheaa
set_option linter.unusedVariables false
set_option maxRecDepth 100000
open Go.RowKit

theorem tdiv_pos {a b : Int} (ha : 0 ≤ a) : a.tdiv b = a / b := Int.tdiv_eq_ediv_of_nonneg ha
/-- What frac.Near returns: the nearest fraction. -/
def NearPost (N M d : Int) (w : World) (e : Ending) (w' : World) : Prop := ∃ p q, e = .returned (.tuple #[.agg #[.int .i64 p, .int .i64 q], .int .i64 0]) ∧ Best N M d p q ∧ Below w.heap.size w w'
theorem red_of {N M : Int} (hM : 1 ≤ M) (hg : Int.gcd N M = 1) : ∀ x e, 1 ≤ e → e < M → x * M ≠ N * e := by
  intro x e h1 h2 h
  have hd : M ∣ N * e := ⟨x, by rw [← h, Int.mul_comm]⟩
  have hd2 : M ∣ e := by
    have hc : Nat.Coprime M.natAbs N.natAbs := by rw [Int.gcd_comm] at hg; exact hg
    refine Int.natAbs_dvd_natAbs.1 (Nat.Coprime.dvd_of_dvd_mul_left hc ?_)
    rw [← Int.natAbs_mul]
    exact Int.natAbs_dvd_natAbs.2 hd
  have := Int.le_of_dvd (by omega) hd2
  omega
theorem red_mod {N M : Int} (red : ∀ x e, 1 ≤ e → e < M → x * M ≠ N * e) : ∀ x e, 1 ≤ e → e < M → x * M ≠ N % M * e := by
  intro x e h1 h2 h
  refine red (x + N / M * e) e h1 h2 ?_
  have := Int.emod_add_mul_ediv N M
  have e1 : N = N % M + M * (N / M) := by omega
  generalize N % M = r at *
  generalize N / M = b at *
  subst e1
  grind
theorem mod_pos {N M : Int} (hM : 2 ≤ M) (red : ∀ x e, 1 ≤ e → e < M → x * M ≠ N * e) : 0 < N % M := by
  have h0 := Int.emod_nonneg N (show M ≠ 0 by omega)
  rcases Int.lt_or_le 0 (N % M) with h | h
  · exact h
  · have h1 : N % M = 0 := by omega
    have := Int.emod_add_mul_ediv N M
    exact absurd (show N / M * M = N * 1 by rw [Int.mul_comm]; omega) (red (N / M) 1 (by omega) (by omega))
theorem gcd_one {a b p q : Int} (h : p * b - a * q = 1) : Int.gcd a b = 1 := by
  have h1 : ((Int.gcd a b : Nat) : Int) ∣ 1 := by
    rw [← h]
    exact Int.dvd_sub (Int.dvd_mul_of_dvd_right (Int.gcd_dvd_right _ _)) (Int.dvd_mul_of_dvd_left (Int.gcd_dvd_left _ _))
  have := Int.natAbs_dvd_natAbs.2 h1
  simpa using this
theorem gcd_one' {a b p q : Int} (h : p * b - a * q = 1) : Int.gcd p q = 1 := by
  have h1 : ((Int.gcd p q : Nat) : Int) ∣ 1 := by
    rw [← h]
    exact Int.dvd_sub (Int.dvd_mul_of_dvd_left (Int.gcd_dvd_left _ _)) (Int.dvd_mul_of_dvd_right (Int.gcd_dvd_right _ _))
  have := Int.natAbs_dvd_natAbs.2 h1
  simpa using this
theorem Ends.nums {N M d A b B q : Int} (h : Ends N M d A b B q) (hd : d < M) (N1 : -2147483647 ≤ N) (N2 : N ≤ 2147483647) : (-2147483647 ≤ A ∧ A ≤ 2147483647) ∧ (-2147483647 ≤ B ∧ B ≤ 2147483647) := by
  have lo := h.lo; have hi := h.hi; have sm := h.small; have b1 := h.b1; have q1 := h.q1; have bd := h.bd; have qd := h.qd
  have e1 : -2147483647 * b ≤ N * b := Int.mul_le_mul_of_nonneg_right N1 (by omega)
  have e2 : N * b ≤ 2147483647 * b := Int.mul_le_mul_of_nonneg_right N2 (by omega)
  have e3 : -2147483647 * q ≤ N * q := Int.mul_le_mul_of_nonneg_right N1 (by omega)
  have e4 : N * q ≤ 2147483647 * q := Int.mul_le_mul_of_nonneg_right N2 (by omega)
  refine ⟨⟨?_, ?_⟩, ?_, ?_⟩
  · rcases Int.lt_or_le A (-2147483647) with x | x
    · have := Int.mul_le_mul_of_nonneg_right (show A ≤ -2147483648 by omega) (show 0 ≤ M by omega); omega
    · exact x
  · rcases Int.lt_or_le 2147483647 A with x | x
    · have := Int.mul_le_mul_of_nonneg_right (show 2147483648 ≤ A by omega) (show 0 ≤ M by omega); omega
    · exact x
  · rcases Int.lt_or_le B (-2147483647) with x | x
    · have := Int.mul_le_mul_of_nonneg_right (show B ≤ -2147483648 by omega) (show 0 ≤ M by omega); omega
    · exact x
  · rcases Int.lt_or_le 2147483647 B with x | x
    · have := Int.mul_le_mul_of_nonneg_right (show 2147483648 ≤ B by omega) (show 0 ≤ M by omega); omega
    · exact x
theorem fracErr_ok {n d : Int} (d1 : 1 ≤ d) (d2 : d ≤ 2147483647) (n1 : -2147483647 ≤ n) (n2 : n ≤ 2147483647) (hg : Int.gcd n d = 1) : fracErr n d = 0 := by
  rw [fracErr, fracOk, decide_eq_true ⟨d1, d2, n1, n2, hg⟩]; rfl
theorem bnd300 {x y : Int} (x0 : 0 ≤ x) (x1 : x ≤ 300) (y0 : 0 ≤ y) (y1 : y ≤ 2147483647) : 0 ≤ x * y ∧ x * y ≤ 644245094100 := by
  have h := Int.mul_nonneg x0 y0
  have h2 : x * y ≤ 300 * 2147483647 := Int.mul_le_mul x1 y1 y0 (by omega)
  omega
theorem fit_sel {x y z w : Int} : (fit x y z w = z / w ∧ z / w < x / y) ∨ (fit x y z w = x / y ∧ x / y ≤ z / w) := by
  unfold fit
  by_cases h : z / w < x / y
  · exact .inl ⟨if_pos h, h⟩
  · exact .inr ⟨if_neg h, by omega⟩
theorem frac_Near_bad (N M d : Int) (w : World) (h1 : -9223372036854775808 ≤ N) (h2 : N ≤ 9223372036854775807) (h3 : -9223372036854775808 ≤ M) (h4 : M ≤ 9223372036854775807) (h : fracOk N M = false) :
    Calls Try.prog 20 #[.agg #[.int .i64 N, .int .i64 M], .int .i64 d] w fun e w' => e = .returned (.tuple #[.agg #[.int .i64 0, .int .i64 0], .int .i64 8]) ∧ Below w.heap.size w w' := by
  have he : fracErr N M = 8 := by rw [fracErr, h]; rfl
  go_enter Try.func20, Try.ntmps20
  go_wp2_with fail
  refine (frac_Check _ _ _ h1 h2 h3 h4).mono ?_
  rw [he]
  rintro e w1 ⟨rfl, hb⟩
  have ax := At.new1 w (.cells #[.int .i64 N, .int .i64 M] 33) (.cells #[.int .i64 0, .int .i64 0] 33)
  have ax2 := ax.then_ hb
  have bx : Below w.heap.size w w1 := by (repeat' (first | exact Below.refl _ _ | assumption | refine Below.drew ?_ | refine below_drewN ?_ _ | refine below_new ?_ _ | refine below_set ?_ ?_ _ | refine below_then ?_ (by assumption) | refine below_drawn ?_ (by assumption) | exact Nat.le_refl _ | omega | (simp; done) | (simp; omega)))
  have f0 : w1.frozen? ⟨w.heap.size + 1, 0, none⟩ = false := ax2.frozen 0
  have f1 : w1.frozen? ⟨w.heap.size + 1, 1, none⟩ = false := ax2.frozen 1
  have z0 : w1.cell? ⟨w.heap.size + 1, 0, none⟩ = some (.int .i64 0) := ax2.cell 0
  have z1 : w1.cell? ⟨w.heap.size + 1, 1, none⟩ = some (.int .i64 0) := ax2.cell 1
  have AX := Lib.hid ax2; clear ax ax2
  go_wp2_with fail
  have AF := AX.out.store2 (.int .i64 0) (.int .i64 0)
  have c0 : ((w1.setCell ⟨w.heap.size + 1, 0, none⟩ (.int .i64 0)).setCell ⟨w.heap.size + 1, 1, none⟩ (.int .i64 0)).cell? ⟨w.heap.size + 1, 0, none⟩ = some (.int .i64 0) := AF.cell 0
  have c1 : ((w1.setCell ⟨w.heap.size + 1, 0, none⟩ (.int .i64 0)).setCell ⟨w.heap.size + 1, 1, none⟩ (.int .i64 0)).cell? ⟨w.heap.size + 1, 1, none⟩ = some (.int .i64 0) := AF.cell 1
  exact bodyPost_ret (v := .tuple #[.agg #[.int .i64 0, .int .i64 0], .int .i64 8]) (by simp [results, Try.results20, go_sem, c0, c1]) rfl ⟨rfl, below_set (below_set bx (by simp) _) (by simp) _⟩
theorem frac_Near_arg (N M d : Int) (w : World) (h : fracOk N M = true) (hd : d < 1 ∨ 2147483647 < d) :
    Calls Try.prog 20 #[.agg #[.int .i64 N, .int .i64 M], .int .i64 d] w fun e w' => e = .returned (.tuple #[.agg #[.int .i64 0, .int .i64 0], .int .i64 1]) ∧ Below w.heap.size w w' := by
  have he : fracErr N M = 0 := by rw [fracErr, h]; rfl
  obtain ⟨M1, M2, N1, N2, _⟩ := fracOk_true h
  rcases Bool.eq_false_or_eq_true (decide (d < 1)) with E1 | E1
  case' inr => have E2 : decide (2147483647 < d) = true := by simp at E1 ⊢; omega
  all_goals
    clear hd
    go_enter Try.func20, Try.ntmps20
    go_wp2_with fail
    refine (frac_Check _ _ _ (by omega) (by omega) (by omega) (by omega)).mono ?_
    rw [he]
    rintro e w1 ⟨rfl, hb⟩
    have ax := At.new1 w (.cells #[.int .i64 N, .int .i64 M] 33) (.cells #[.int .i64 0, .int .i64 0] 33)
    have ax2 := ax.then_ hb
    have bx : Below w.heap.size w w1 := by (repeat' (first | exact Below.refl _ _ | assumption | refine Below.drew ?_ | refine below_drewN ?_ _ | refine below_new ?_ _ | refine below_set ?_ ?_ _ | refine below_then ?_ (by assumption) | refine below_drawn ?_ (by assumption) | exact Nat.le_refl _ | omega | (simp; done) | (simp; omega)))
    have f0 : w1.frozen? ⟨w.heap.size + 1, 0, none⟩ = false := ax2.frozen 0
    have f1 : w1.frozen? ⟨w.heap.size + 1, 1, none⟩ = false := ax2.frozen 1
    have z0 : w1.cell? ⟨w.heap.size + 1, 0, none⟩ = some (.int .i64 0) := ax2.cell 0
    have z1 : w1.cell? ⟨w.heap.size + 1, 1, none⟩ = some (.int .i64 0) := ax2.cell 1
    have AX := Lib.hid ax2; clear ax ax2
    go_wp2_with fail
    have AF := AX.out.store2 (.int .i64 0) (.int .i64 0)
    have c0 : ((w1.setCell ⟨w.heap.size + 1, 0, none⟩ (.int .i64 0)).setCell ⟨w.heap.size + 1, 1, none⟩ (.int .i64 0)).cell? ⟨w.heap.size + 1, 0, none⟩ = some (.int .i64 0) := AF.cell 0
    have c1 : ((w1.setCell ⟨w.heap.size + 1, 0, none⟩ (.int .i64 0)).setCell ⟨w.heap.size + 1, 1, none⟩ (.int .i64 0)).cell? ⟨w.heap.size + 1, 1, none⟩ = some (.int .i64 0) := AF.cell 1
    exact bodyPost_ret (v := .tuple #[.agg #[.int .i64 0, .int .i64 0], .int .i64 1]) (by simp [results, Try.results20, go_sem, c0, c1]) rfl ⟨rfl, below_set (below_set bx (by simp) _) (by simp) _⟩
set_option maxHeartbeats 8000000 in
theorem frac_Near_ok (N M d : Int) (w : World) (h : fracOk N M = true) (d1 : 1 ≤ d) (d2 : d ≤ 300) :
    Calls Try.prog 20 #[.agg #[.int .i64 N, .int .i64 M], .int .i64 d] w (NearPost N M d w) := by
  have he : fracErr N M = 0 := by rw [fracErr, h]; rfl
  obtain ⟨M1, M2, N1, N2, hg⟩ := fracOk_true h
  have red := red_of M1 hg
  have RED := Lib.hid red; clear red hg h
  have E1 : decide (d < 1) = false := by simpa using d1
  have E2 : decide (2147483647 < d) = false := by simp; omega
  by_cases hMd : M ≤ d
  · have HB := Lib.hid (best_self (d := d) M1 hMd RED.out)
    go_enter Try.func20, Try.ntmps20
    go_wp2_with fail
    refine (frac_Check _ _ _ (by omega) (by omega) (by omega) (by omega)).mono ?_
    rw [he]
    rintro e w1 ⟨rfl, hb⟩
    have a0 := (At.new w (.cells #[.int .i64 N, .int .i64 M] 33)).alloc (.cells #[.int .i64 0, .int .i64 0] 33)
    have a1 := At.new1 w (.cells #[.int .i64 N, .int .i64 M] 33) (.cells #[.int .i64 0, .int .i64 0] 33)
    replace a0 := a0.then_ hb
    replace a1 := a1.then_ hb
    have b0 : Below w.heap.size w w1 := by (repeat' (first | exact Below.refl _ _ | assumption | refine Below.drew ?_ | refine below_drewN ?_ _ | refine below_new ?_ _ | refine below_set ?_ ?_ _ | refine below_then ?_ (by assumption) | refine below_drawn ?_ (by assumption) | exact Nat.le_refl _ | omega | (simp; done) | (simp; omega)))
    have x0 : w1.cell? ⟨w.heap.size, 0, none⟩ = some (.int .i64 N) := a0.cell 0
    have x1 : w1.cell? ⟨w.heap.size, 1, none⟩ = some (.int .i64 M) := a0.cell 1
    have z0 : w1.cell? ⟨w.heap.size + 1, 0, none⟩ = some (.int .i64 0) := a1.cell 0
    have z1 : w1.cell? ⟨w.heap.size + 1, 1, none⟩ = some (.int .i64 0) := a1.cell 1
    have f0 : w1.frozen? ⟨w.heap.size + 1, 0, none⟩ = false := a1.frozen 0
    have f1 : w1.frozen? ⟨w.heap.size + 1, 1, none⟩ = false := a1.frozen 1
    have A1 := Lib.hid a1
    clear hb a1
    go_wp2_with fail
    have AF := A1.out.store2 (.int .i64 N) (.int .i64 M)
    have c0 : ((w1.setCell ⟨w.heap.size + 1, 0, none⟩ (.int .i64 N)).setCell ⟨w.heap.size + 1, 1, none⟩ (.int .i64 M)).cell? ⟨w.heap.size + 1, 0, none⟩ = some (.int .i64 N) := AF.cell 0
    have c1 : ((w1.setCell ⟨w.heap.size + 1, 0, none⟩ (.int .i64 N)).setCell ⟨w.heap.size + 1, 1, none⟩ (.int .i64 M)).cell? ⟨w.heap.size + 1, 1, none⟩ = some (.int .i64 M) := AF.cell 1
    exact bodyPost_ret (v := .tuple #[.agg #[.int .i64 N, .int .i64 M], .int .i64 0]) (by simp [results, Try.results20, go_sem, c0, c1]) rfl ⟨N, M, rfl, HB.out, below_set (below_set b0 (by simp) _) (by simp) _⟩
  have hMd' : d < M := by omega
  have n0 := mod_pos (show 2 ≤ M by omega) RED.out
  have n1 := Int.emod_lt_of_pos N (show 0 < M by omega)
  have RED2 := Lib.hid (red_mod RED.out)
  have hmb := Int.emod_add_mul_ediv N M
  have hbb1 : -2147483647 ≤ N / M := by
    refine Int.le_ediv_of_mul_le (show 0 < M by omega) ?_
    have : -2147483647 * M ≤ -2147483647 * 1 := Int.mul_le_mul_of_nonpos_left (by omega) (by omega)
    omega
  have hbb2 : N / M ≤ 2147483647 := by
    rcases Int.lt_or_le N 0 with hN | hN
    · have := Int.ediv_neg_of_neg_of_pos hN (show 0 < M by omega); omega
    · have := Int.ediv_le_self M hN; omega
  generalize hbase : N / M = base at *
  generalize hn : N % M = n at *
  obtain ⟨BM, hBM⟩ : ∃ BM, BM = base * M := ⟨_, rfl⟩
  have hNB : N - BM = n := by rw [hBM, Int.mul_comm]; omega
  have hN2 : N = base * M + n := by rw [← hBM]; omega
  have bm1 : -9223372036854775808 ≤ BM ∧ BM ≤ 9223372036854775807 := by omega
  obtain ⟨bm1, bm2⟩ := bm1
  have hBM' : base * M = BM := hBM.symm
  have HN2 := Lib.hid hN2; have HNB := Lib.hid hNB
  have hMd2 : decide (M ≤ d) = false := by simpa using hMd
  clear hBM hNB hN2 hmb hn hMd
  go_enter Try.func20, Try.ntmps20
  go_wp2_with fail
  refine (frac_Check _ _ _ (by omega) (by omega) (by omega) (by omega)).mono ?_
  rw [he]
  rintro e w1 ⟨rfl, hb⟩
  have a0 := (At.new w (.cells #[.int .i64 N, .int .i64 M] 33)).alloc (.cells #[.int .i64 0, .int .i64 0] 33)
  have a1 := At.new1 w (.cells #[.int .i64 N, .int .i64 M] 33) (.cells #[.int .i64 0, .int .i64 0] 33)
  replace a0 := a0.then_ hb
  replace a1 := a1.then_ hb
  have b0 : Below w.heap.size w w1 := by (repeat' (first | exact Below.refl _ _ | assumption | refine Below.drew ?_ | refine below_drewN ?_ _ | refine below_new ?_ _ | refine below_set ?_ ?_ _ | refine below_then ?_ (by assumption) | refine below_drawn ?_ (by assumption) | exact Nat.le_refl _ | omega | (simp; done) | (simp; omega)))
  clear hb
  have x0 : w1.cell? ⟨w.heap.size, 0, none⟩ = some (.int .i64 N) := a0.cell 0
  have x1 : w1.cell? ⟨w.heap.size, 1, none⟩ = some (.int .i64 M) := a0.cell 1
  go_wp2_with fail
  refine (whole_Down _ _ _ (by omega) (by omega) M1 (by omega)).mono ?_
  rw [hbase]
  rintro e w2 ⟨rfl, ⟨nd, rfl⟩⟩
  have wn : IntKind.i64.wrap (N - BM) = N - BM := IntWalk.i64_in _ (by have := HNB.out; omega)
  have wn2 : IntKind.i64.wrap BM = BM := IntWalk.i64_in _ (by omega)
  go_wp2_with fail
  go_quiet (fail)
  rw [HNB.out]
  clear wn wn2
  have c0 : At ((w1.drewN nd).drewN nq) w.heap.size (.cells #[.int .i64 N, .int .i64 M] 33) := a0
  have c1 : At ((w1.drewN nd).drewN nq) (w.heap.size + 1) (.cells #[.int .i64 0, .int .i64 0] 33) := a1
  have bb : Below w.heap.size w ((w1.drewN nd).drewN nq) := below_drewN (below_drewN b0 _) _
  have C0 := Lib.hid c0; have C1 := Lib.hid c1; have BB := Lib.hid bb
  clear c0 c1 bb a0 a1 b0 x0 x1
  generalize (w1.drewN nd).drewN nq = W0 at C0 C1 BB ⊢
  have hMN := Lib.hid hMd'
  have RD := Lib.hid (show ∀ x e, 1 ≤ e → e ≤ d → x * M ≠ n * e from fun x e h1 h2 => RED2.out x e h1 (by omega))
  clear RED RED2 hbase E1 E2 he
  go_wp2_with fail
  go_loop [10, 11, 12, 13, 14, 15, 16, 17, 18, 19] (fun va vb vp vq _ _ _ _ _ _ => ∃ a b p q : Int, va = .int .i64 a ∧ vb = .int .i64 b ∧ vp = .int .i64 p ∧ vq = .int .i64 q ∧ Nb n M d a b p q) (fun _ vb _ vq _ _ _ _ _ _ => (2 * d - intOf vb - intOf vq).toNat)
  case atStart => exact ⟨0, 1, 1, 1, rfl, rfl, rfl, rfl, Nb.start n0 n1 d1⟩
  case round =>
    obtain ⟨a, b, p, q, rfl, rfl, rfl, rfl, hN⟩ := hrel
    have ga := hN.a0; have gb1 := hN.b1; have gb2 := hN.bd; have gq1 := hN.q1; have gq2 := hN.qd; have gpq := hN.pq
    have glo := hN.lo; have ghi := hN.hi; have gab := hN.ab (by omega) n1
    have gp0 : 0 ≤ p := by
      rcases Int.lt_or_le p 0 with x | x
      · have h1 := hN.det
        have h2 : 0 ≤ a * q := Int.mul_nonneg ga (by omega)
        have h3 := Int.mul_neg_of_neg_of_pos x (show 0 < b by omega)
        omega
      · exact x
    obtain ⟨f1, f2⟩ := bnd300 gp0 (show p ≤ 300 by omega) (show 0 ≤ M by omega) M2
    obtain ⟨f3, f4⟩ := bnd300 (show 0 ≤ q by omega) (show q ≤ 300 by omega) (show 0 ≤ n by omega) (show n ≤ 2147483647 by omega)
    obtain ⟨f5, f6⟩ := bnd300 (show 0 ≤ b by omega) (show b ≤ 300 by omega) (show 0 ≤ n by omega) (show n ≤ 2147483647 by omega)
    obtain ⟨f7, f8⟩ := bnd300 ga (show a ≤ 300 by omega) (show 0 ≤ M by omega) M2
    rw [Int.mul_comm q n] at f3 f4
    rw [Int.mul_comm b n] at f5 f6
    obtain ⟨k0, k1, k2⟩ := fit_ok (x := n * b - a * M) (y := p * M - n * q) (z := d - b) (w := q) (by omega) ghi (by omega) (by omega)
    have hsel := fit_sel (x := n * b - a * M) (y := p * M - n * q) (z := d - b) (w := q)
    have hNb := hN.right RD.out _ k0 k1 k2
    have HN := Lib.hid hN; clear hN
    generalize hK : fit (n * b - a * M) (p * M - n * q) (d - b) q = K at *
    have HK := Lib.hid hK; clear hK
    have e1 := tdiv_pos (a := n * b - a * M) (b := p * M - n * q) (by omega)
    have e2 := tdiv_pos (a := d - b) (b := q) (by omega)
    have u1 := Int.ediv_nonneg (show 0 ≤ n * b - a * M by omega) (show 0 ≤ p * M - n * q by omega)
    have u2 := Int.ediv_le_self (p * M - n * q) (show 0 ≤ n * b - a * M by omega)
    have u3 := Int.ediv_nonneg (show 0 ≤ d - b by omega) (show 0 ≤ q by omega)
    have u4 := Int.ediv_le_self q (show 0 ≤ d - b by omega)
    have kq0 : 0 ≤ K * q := Int.mul_nonneg k0 (by omega)
    have kp0 : 0 ≤ K * p := Int.mul_nonneg k0 gp0
    have kpq : K * p ≤ K * q := Int.mul_le_mul_of_nonneg_left gpq k0
    have kk : K * 1 ≤ K * q := Int.mul_le_mul_of_nonneg_left gq1 k0
    generalize hK1 : (n * b - a * M) / (p * M - n * q) = K1 at *
    generalize hT1 : (d - b) / q = T1 at *
    generalize hKP : K * p = KP at *
    generalize hKQ : K * q = KQ at *
    generalize hA2 : a + KP = A2 at *
    generalize hB2 : b + KQ = B2 at *
    have hb0 := hNb.a0; have hb1 := hNb.b1; have hb2 := hNb.bd
    have hbl := hNb.lo; have hbab := hNb.ab (by omega) n1
    obtain ⟨j5, j6⟩ := bnd300 (show 0 ≤ B2 by omega) (show B2 ≤ 300 by omega) (show 0 ≤ n by omega) (show n ≤ 2147483647 by omega)
    obtain ⟨j7, j8⟩ := bnd300 hb0 (show A2 ≤ 300 by omega) (show 0 ≤ M by omega) M2
    rw [Int.mul_comm B2 n] at j5 j6
    obtain ⟨l0, l1, l2⟩ := fit_ok (x := p * M - n * q) (y := n * B2 - A2 * M) (z := d - q) (w := B2) (by omega) hbl (by omega) (by omega)
    have hsel2 := fit_sel (x := p * M - n * q) (y := n * B2 - A2 * M) (z := d - q) (w := B2)
    have hNc := hNb.left RD.out (by omega) _ l0 l1 l2
    generalize hJ : fit (p * M - n * q) (n * B2 - A2 * M) (d - q) B2 = J at *
    have HJ := Lib.hid hJ; clear hJ
    have e3 := tdiv_pos (a := p * M - n * q) (b := n * B2 - A2 * M) (by omega)
    have e4 := tdiv_pos (a := d - q) (b := B2) (by omega)
    have u5 := Int.ediv_nonneg (show 0 ≤ p * M - n * q by omega) (show 0 ≤ n * B2 - A2 * M by omega)
    have u6 := Int.ediv_le_self (n * B2 - A2 * M) (show 0 ≤ p * M - n * q by omega)
    have u7 := Int.ediv_nonneg (show 0 ≤ d - q by omega) (show 0 ≤ B2 by omega)
    have u8 := Int.ediv_le_self B2 (show 0 ≤ d - q by omega)
    have jb0 : 0 ≤ J * B2 := Int.mul_nonneg l0 (by omega)
    have ja0 : 0 ≤ J * A2 := Int.mul_nonneg l0 hb0
    have jab : J * A2 ≤ J * B2 := Int.mul_le_mul_of_nonneg_left (by omega) l0
    have jj : J * 1 ≤ J * B2 := Int.mul_le_mul_of_nonneg_left hb1 l0
    generalize hJ1 : (p * M - n * q) / (n * B2 - A2 * M) = J1 at *
    generalize hT2 : (d - q) / B2 = T2 at *
    generalize hJA : J * A2 = JA at *
    generalize hJB : J * B2 = JB at *
    generalize hP2 : p + JA = P2 at *
    generalize hQ2 : q + JB = Q2 at *
    have hc1 := hNc.q1; have hc2 := hNc.qd; have hcpq := hNc.pq; have hch := hNc.hi
    obtain ⟨m1, m2⟩ := bnd300 (show 0 ≤ P2 by omega) (show P2 ≤ 300 by omega) (show 0 ≤ M by omega) M2
    obtain ⟨m3, m4⟩ := bnd300 (show 0 ≤ Q2 by omega) (show Q2 ≤ 300 by omega) (show 0 ≤ n by omega) (show n ≤ 2147483647 by omega)
    rw [Int.mul_comm Q2 n] at m3 m4
    generalize hPM : p * M = PM at *
    generalize hNQ : n * q = NQ at *
    generalize hNBv : n * b = NB at *
    generalize hAM : a * M = AM at *
    generalize hNB2 : n * B2 = NB2 at *
    generalize hAM2 : A2 * M = AM2 at *
    generalize hPM2 : P2 * M = PM2 at *
    generalize hNQ2 : n * Q2 = NQ2 at *
    have w1 : (PM - NQ == 0) = false := by simp; omega
    have w2 : (q == 0) = false := by simp; omega
    have w3 : (AM2 == NB2) = false := by simp; omega
    have w4 : (NB2 - AM2 == 0) = false := by simp; omega
    have w5 : (B2 == 0) = false := by simp; omega
    have w6 : (PM2 == NQ2) = false := by simp; omega
    have D1 : decide (NQ < PM) = true := by simp; omega
    have D2 : decide (AM2 < NB2) = true := by simp; omega
    have HS1 := Lib.hid hsel; have HS2 := Lib.hid hsel2
    have HC := Lib.hid hNc
    have HKP := Lib.hid hKP; have HKQ := Lib.hid hKQ; have HJA := Lib.hid hJA; have HJB := Lib.hid hJB
    clear hsel hsel2 hNb hNc hK1 hT1 hJ1 hT2 l1 l2 k1 k2
    go_upto_if 80 with fail
    go_cut [14] from 78 to 81 (fun y wx => y = .int .i64 K ∧ W0 = wx)
    case first =>
      rcases HS1.out with ⟨x, D⟩ | ⟨x, D⟩
      · have X := Lib.hid x; clear x
        go_wp2_with fail
        go_meet
        case rel => exact ⟨by rw [X.out], rfl⟩
      · have X := Lib.hid x; clear x
        go_wp2_with fail
        go_meet
        case rel => exact ⟨by rw [X.out], rfl⟩
    case rest =>
    obtain ⟨rfl, rfl⟩ := hcut
    go_upto_if 126 with fail
    go_cut [17] from 124 to 127 (fun y wx => y = .int .i64 J ∧ W0 = wx)
    case first =>
      rcases HS2.out with ⟨x, D⟩ | ⟨x, D⟩
      · have X := Lib.hid x; clear x
        go_wp2_with fail
        go_meet
        case rel => exact ⟨by rw [X.out], rfl⟩
      · have X := Lib.hid x; clear x
        go_wp2_with fail
        go_meet
        case rel => exact ⟨by rw [X.out], rfl⟩
    case rest =>
    obtain ⟨rfl, rfl⟩ := hcut
    have hw : (K == 0 && J == 0) = true ∨ ((K == 0) = false ∨ ((K == 0) = true ∧ (J == 0) = false)) := by
      cases K == 0 <;> cases J == 0 <;> simp
    rcases hw with hw | hw
    case inr =>
      have hlt : b + q < B2 + Q2 := by
        have h1 := HKQ.out; have h2 := HJB.out
        rcases hw with h | ⟨_, h⟩
        · have : K ≠ 0 := by simpa using h
          omega
        · have : J ≠ 0 := by simpa using h
          omega
      rcases hw with h | ⟨h, h'⟩
      all_goals
        go_wp2_with fail
        go_round
        case rel => exact ⟨A2, B2, P2, Q2, rfl, rfl, rfl, rfl, HC.out⟩
        case measure => simp [intOf]; omega
    have hk0 : (K == 0) = true := by revert hw; cases K == 0 <;> simp
    have hj0 : (J == 0) = true := by revert hw; cases K == 0 <;> cases J == 0 <;> simp
    have K0 : K = 0 := by simpa using hk0
    have J0 : J = 0 := by simpa using hj0
    have hfar : d < B2 + Q2 := by
      have h1 := HKP.out; have h2 := HKQ.out; have h3 := HJB.out
      rw [K0, Int.zero_mul] at h1 h2
      rw [J0, Int.zero_mul] at h3
      have f1' := fit_zero (by omega) (by omega) (by omega) (by omega) (HK.out.trans K0)
      have f2' := fit_zero (by omega) (by omega) (by omega) (by omega) (HJ.out.trans J0)
      have hb' : B2 = b := by omega
      have ha' : A2 = a := by omega
      have z1 : NB2 = NB := by rw [← hNB2, ← hNBv, hb']
      have z2 : AM2 = AM := by rw [← hAM2, ← hAM, ha']
      omega
    have he := Ends.of base HC.out M1 hfar
    rw [← HN2.out] at he
    clear hfar hw K0 J0 HK HJ HKP HKQ HJA HJB e1 e2 e3 e4 u1 u2 u3 u4 u5 u6 u7 u8 HS1 HS2 HN
    obtain ⟨r1, r2⟩ : -644245094100 ≤ base * B2 ∧ base * B2 ≤ 644245094100 := by
      have t1 : -2147483647 * B2 ≤ base * B2 := Int.mul_le_mul_of_nonneg_right hbb1 (by omega)
      have t2 : base * B2 ≤ 2147483647 * B2 := Int.mul_le_mul_of_nonneg_right hbb2 (by omega)
      omega
    obtain ⟨r3, r4⟩ : -644245094100 ≤ base * Q2 ∧ base * Q2 ≤ 644245094100 := by
      have t1 : -2147483647 * Q2 ≤ base * Q2 := Int.mul_le_mul_of_nonneg_right hbb1 (by omega)
      have t2 : base * Q2 ≤ 2147483647 * Q2 := Int.mul_le_mul_of_nonneg_right hbb2 (by omega)
      omega
    generalize hXB : base * B2 = XB at *
    generalize hXQ : base * Q2 = XQ at *
    generalize hL : A2 + XB = L at *
    generalize hU : P2 + XQ = U at *
    obtain ⟨⟨L1, L2⟩, U1, U2⟩ := he.nums hMN.out N1 N2
    have HE := Lib.hid he; clear he
    obtain ⟨y, hy⟩ : ∃ y : Nat, B2 = (y : Int) := ⟨B2.toNat, by omega⟩
    obtain ⟨x, hx⟩ : ∃ x : Nat, Q2 = (x : Int) := ⟨Q2.toNat, by omega⟩
    subst hy hx
    obtain ⟨u, hu⟩ : ∃ u, (U * M - N * (x : Int)).natAbs = u := ⟨_, rfl⟩
    obtain ⟨l, hl⟩ : ∃ l, (L * M - N * (y : Int)).natAbs = l := ⟨_, rfl⟩
    have su : u ≤ 2147483647 := by have := HE.out.small; have := HE.out.hi; omega
    have sl : l ≤ 2147483647 := by have := HE.out.small; have := HE.out.lo; omega
    have HCALL := Lib.hid (fun W => frac_nearer U L N M x y u l W U1 U2 L1 L2 N1 N2 M1 M2 (by omega) (by omega) (by omega) (by omega) hu hl su sl)
    have HU := Lib.hid hu; have HL := Lib.hid hl; clear hu hl
    go_upto_region 33 with fail
    have al := (At.new W0 (.cells #[.int .i64 L, .int .i64 (y : Int)] 33)).alloc (.cells #[.int .i64 U, .int .i64 (x : Int)] 33)
    have au := At.new1 W0 (.cells #[.int .i64 L, .int .i64 (y : Int)] 33) (.cells #[.int .i64 U, .int .i64 (x : Int)] 33)
    have ab := (C0.out.alloc (.cells #[.int .i64 L, .int .i64 (y : Int)] 33)).alloc (.cells #[.int .i64 U, .int .i64 (x : Int)] 33)
    have ar := (C1.out.alloc (.cells #[.int .i64 L, .int .i64 (y : Int)] 33)).alloc (.cells #[.int .i64 U, .int .i64 (x : Int)] 33)
    have bw := below_new (below_new BB.out (.cells #[.int .i64 L, .int .i64 (y : Int)] 33)) (.cells #[.int .i64 U, .int .i64 (x : Int)] 33)
    generalize World.alloc (World.alloc W0 _) _ = W1 at al au ab ar bw ⊢
    have lt0 := C0.out.lt; have lt1 := C1.out.lt
    generalize hBL : W0.heap.size = BL at *
    clear hBL
    obtain ⟨q0, q1⟩ : W1.cell? ⟨w.heap.size, 0, none⟩ = some (.int .i64 N) ∧ W1.cell? ⟨w.heap.size, 1, none⟩ = some (.int .i64 M) := ⟨ab.cell 0, ab.cell 1⟩
    obtain ⟨q2, q3⟩ : W1.cell? ⟨BL, 0, none⟩ = some (.int .i64 L) ∧ W1.cell? ⟨BL, 1, none⟩ = some (.int .i64 (y : Int)) := ⟨al.cell 0, al.cell 1⟩
    obtain ⟨q4, q5⟩ : W1.cell? ⟨BL + 1, 0, none⟩ = some (.int .i64 U) ∧ W1.cell? ⟨BL + 1, 1, none⟩ = some (.int .i64 (x : Int)) := ⟨au.cell 0, au.cell 1⟩
    obtain ⟨bp, hbp⟩ : ∃ bp, bp = pickB u l L y U x := ⟨_, rfl⟩
    have HBP := Lib.hid hbp; clear hbp
    have PK := Lib.hid (show (bp = true → Best N M d U (x : Int)) ∧ (bp = false → Best N M d L (y : Int)) by
      have eu : (u : Int) = U * M - N * (x : Int) := by rw [← HU.out]; have := HE.out.hi; omega
      have el : (l : Int) = N * (y : Int) - L * M := by rw [← HL.out]; have := HE.out.lo; omega
      constructor
      · intro h
        refine HE.out.bestU ?_
        have := HBP.out; rw [h] at this
        rw [← eu, ← el]
        exact of_decide_eq_true this.symm
      · intro h
        refine HE.out.bestL ?_
        have := HBP.out; rw [h] at this
        rw [← eu, ← el]
        exact of_decide_eq_false this.symm)
    go_wp2_with fail
    refine (HCALL.out _).mono ?_
    rw [← HBP.out]
    rintro e w3 ⟨rfl, hb3⟩
    have al2 := al.then_ hb3
    have au2 := au.then_ hb3
    have ar2 := ar.then_ hb3
    have bw2 := below_then bw hb3
    clear q0 q1 q2 q3 q4 q5 al au ab ar bw hb3
    cases bp with
    | false =>
      have q2 : w3.cell? ⟨BL, 0, none⟩ = some (.int .i64 L) := al2.cell 0
      have q3 : w3.cell? ⟨BL, 1, none⟩ = some (.int .i64 (y : Int)) := al2.cell 1
      go_wp2_with fail
      clear q2 q3
      have b4 := fracErr_ok (n := L) (d := (y : Int)) (by omega) (by omega) (by omega) (by omega) (gcd_one HE.out.det)
      refine (frac_Check _ _ _ (by omega) (by omega) (by omega) (by omega)).mono ?_
      rw [b4]
      rintro e w4 ⟨rfl, hb4⟩
      replace al2 := al2.then_ hb4
      replace ar2 := ar2.then_ hb4
      replace bw2 := below_then bw2 hb4
      have v0 : w4.cell? ⟨BL, 0, none⟩ = some (.int .i64 L) := al2.cell 0
      have v1 : w4.cell? ⟨BL, 1, none⟩ = some (.int .i64 (y : Int)) := al2.cell 1
      have v2 : w4.cell? ⟨w.heap.size + 1, 0, none⟩ = some (.int .i64 0) := ar2.cell 0
      have v3 : w4.cell? ⟨w.heap.size + 1, 1, none⟩ = some (.int .i64 0) := ar2.cell 1
      have v4 : w4.frozen? ⟨w.heap.size + 1, 0, none⟩ = false := ar2.frozen 0
      have v5 : w4.frozen? ⟨w.heap.size + 1, 1, none⟩ = false := ar2.frozen 1
      have AR2 := Lib.hid ar2; clear hb4 al2 ar2
      go_wp2_with fail
      have AF := AR2.out.store2 (.int .i64 L) (.int .i64 (y : Int))
      have cc0 : ((w4.setCell ⟨w.heap.size + 1, 0, none⟩ (.int .i64 L)).setCell ⟨w.heap.size + 1, 1, none⟩ (.int .i64 (y : Int))).cell? ⟨w.heap.size + 1, 0, none⟩ = some (.int .i64 L) := AF.cell 0
      have cc1 : ((w4.setCell ⟨w.heap.size + 1, 0, none⟩ (.int .i64 L)).setCell ⟨w.heap.size + 1, 1, none⟩ (.int .i64 (y : Int))).cell? ⟨w.heap.size + 1, 1, none⟩ = some (.int .i64 (y : Int)) := AF.cell 1
      exact bodyPost_ret (v := .tuple #[.agg #[.int .i64 L, .int .i64 (y : Int)], .int .i64 0]) (by simp [results, Try.results20, go_sem, cc0, cc1]) rfl ⟨L, (y : Int), rfl, (PK.out.2 (by first | rfl | trivial)), below_set (below_set bw2 (by simp) _) (by simp) _⟩
    | true =>
      have q2 : w3.cell? ⟨BL, 0, none⟩ = some (.int .i64 L) := al2.cell 0
      have q3 : w3.cell? ⟨BL, 1, none⟩ = some (.int .i64 (y : Int)) := al2.cell 1
      have q4 : w3.cell? ⟨BL + 1, 0, none⟩ = some (.int .i64 U) := au2.cell 0
      have q5 : w3.cell? ⟨BL + 1, 1, none⟩ = some (.int .i64 (x : Int)) := au2.cell 1
      have f2 : w3.frozen? ⟨BL, 0, none⟩ = false := al2.frozen 0
      have f3 : w3.frozen? ⟨BL, 1, none⟩ = false := al2.frozen 1
      have al3 := al2.store2 (.int .i64 U) (.int .i64 (x : Int))
      have ar3 := (ar2.apart (p := ⟨BL, 0, none⟩) (by simp; omega) (.int .i64 U)).apart (p := ⟨BL, 1, none⟩) (by simp; omega) (.int .i64 (x : Int))
      have bw3 := below_set (below_set bw2 (p := ⟨BL, 0, none⟩) (by simp; omega) (.int .i64 U)) (p := ⟨BL, 1, none⟩) (by simp; omega) (.int .i64 (x : Int))
      have AL3 := Lib.hid al3; have AR3 := Lib.hid ar3; have BW3 := Lib.hid bw3
      clear al3 ar3 bw3 al2 ar2 bw2
      go_upto_region 35 with fail
      have al2 := AL3.out; have ar2 := AR3.out; have bw2 := BW3.out
      generalize World.setCell (World.setCell w3 _ _) _ _ = W5 at al2 ar2 bw2 ⊢
      have q6 : W5.cell? ⟨BL, 0, none⟩ = some (.int .i64 U) := al2.cell 0
      have q7 : W5.cell? ⟨BL, 1, none⟩ = some (.int .i64 (x : Int)) := al2.cell 1
      go_wp2_with fail
      clear q2 q3 q4 q5 q6 q7 f2 f3
      have b4 := fracErr_ok (n := U) (d := (x : Int)) (by omega) (by omega) (by omega) (by omega) (gcd_one' HE.out.det)
      refine (frac_Check _ _ _ (by omega) (by omega) (by omega) (by omega)).mono ?_
      rw [b4]
      rintro e w4 ⟨rfl, hb4⟩
      replace al2 := al2.then_ hb4
      replace ar2 := ar2.then_ hb4
      replace bw2 := below_then bw2 hb4
      have v0 : w4.cell? ⟨BL, 0, none⟩ = some (.int .i64 U) := al2.cell 0
      have v1 : w4.cell? ⟨BL, 1, none⟩ = some (.int .i64 (x : Int)) := al2.cell 1
      have v2 : w4.cell? ⟨w.heap.size + 1, 0, none⟩ = some (.int .i64 0) := ar2.cell 0
      have v3 : w4.cell? ⟨w.heap.size + 1, 1, none⟩ = some (.int .i64 0) := ar2.cell 1
      have v4 : w4.frozen? ⟨w.heap.size + 1, 0, none⟩ = false := ar2.frozen 0
      have v5 : w4.frozen? ⟨w.heap.size + 1, 1, none⟩ = false := ar2.frozen 1
      have AR2 := Lib.hid ar2; clear hb4 al2 ar2
      go_wp2_with fail
      have AF := AR2.out.store2 (.int .i64 U) (.int .i64 (x : Int))
      have cc0 : ((w4.setCell ⟨w.heap.size + 1, 0, none⟩ (.int .i64 U)).setCell ⟨w.heap.size + 1, 1, none⟩ (.int .i64 (x : Int))).cell? ⟨w.heap.size + 1, 0, none⟩ = some (.int .i64 U) := AF.cell 0
      have cc1 : ((w4.setCell ⟨w.heap.size + 1, 0, none⟩ (.int .i64 U)).setCell ⟨w.heap.size + 1, 1, none⟩ (.int .i64 (x : Int))).cell? ⟨w.heap.size + 1, 1, none⟩ = some (.int .i64 (x : Int)) := AF.cell 1
      exact bodyPost_ret (v := .tuple #[.agg #[.int .i64 U, .int .i64 (x : Int)], .int .i64 0]) (by simp [results, Try.results20, go_sem, cc0, cc1]) rfl ⟨U, (x : Int), rfl, (PK.out.1 (by first | rfl | trivial)), below_set (below_set bw2 (by simp) _) (by simp) _⟩
end Go.Proofs.Ytnepdfglhngheaa
