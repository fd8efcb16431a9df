/- RuleParses: the Go text returns true at every input, and writes nothing that was there. -/
import Derived.Test.YtchahccnmjaejacDoorRows
import Derived.Test.YtchahccnmjaejacDoorRfp2
import Derived.Test.YtchahccnmjaejacDoorRfs
import Derived.Test.YtchahccnmjaejacDoorTree5
import Derived.Test.YtchahccnmjaejacDoorLaidS
import Derived.Test.YtchahccnmjaejacDoorLaid
import Derived.Test.YtchahccnmjaejacDoorLex
namespace Go.Proofs.YtchahccnmjaejacDoor.ruleParsesLaw
set_option linter.unusedVariables false
set_option maxRecDepth 100000
open Go.RowKit Go.ChangeShapes Go.WideShapes Go.Shelf

theorem natP_ns (l : List Tok) : natP l ≠ .stuck := by rcases natP_cases l with ⟨c, e⟩ | ⟨n, e⟩ <;> rw [e] <;> simp
theorem signP_ns (l : List Tok) : signP l ≠ .stuck := by rcases signP_cases l with ⟨c, e⟩ | ⟨n, e⟩ <;> rw [e] <;> simp
theorem wordP_ns (l : List Tok) : wordP l ≠ .stuck := by rcases wordP_cases l with e | e <;> rw [e] <;> simp
theorem bind_ns {α β : Type} {R : Res α} {g : α → Res β} (h : R ≠ .stuck) (hg : ∀ x, R = .good x → g x ≠ .stuck) : R.bind g ≠ .stuck := by
  cases R with
  | stuck => exact absurd rfl h
  | bad c => show Res.bad c ≠ _; simp
  | good x => exact hg x rfl
theorem monP_ns (l : List Tok) : monP l ≠ .stuck := by
  refine bind_ns (wordP_ns l) fun p _ => bind_ns (signP_ns p.2) fun q _ => ?_
  by_cases h : hd q.2 = []
  · simp only [if_pos h]; simp
  · simp only [if_neg h]; exact bind_ns (signP_ns q.2) fun s _ => by simp
theorem rowP_ns {f i : Nat} {l : List Tok} {t : PRule} (h : i = 3 → expP f 0 l.tail 0 ≠ .stuck) : rowP f i l t ≠ .stuck := by
  unfold rowP needP
  by_cases hk : hd l = kOf i
  · rw [if_pos hk]
    refine bind_ns (R := restP f i l.tail t) ?_ fun p _ => by split <;> simp
    match i with
    | 0 => exact bind_ns (wordP_ns _) fun _ _ => by simp
    | 1 => exact bind_ns (signP_ns _) fun _ _ => by simp
    | 2 => exact bind_ns (signP_ns _) fun _ _ => by simp
    | 3 => exact bind_ns (h rfl) fun _ _ => by simp
    | j + 4 => rw [restP_4 (by omega)]; exact bind_ns (monP_ns _) fun _ _ => by simp
  · rw [if_neg hk]; show Res.bad 4 ≠ _; simp
theorem linesP_ns {f : Nat} : ∀ (L : List (List UInt8)) (i : Nat) (t : PRule), (∀ T, i ≤ 3 → L[3 - i]? = some T → expP f 0 (toks T).tail 0 ≠ .stuck) → (linesP f i L t).2 ≠ .stuck
  | [], i, t, h => by rw [linesP]; simp
  | s :: r, i, t, h => by
    rw [linesP]
    have h1 : rowP f i (toks s) t ≠ .stuck := rowP_ns fun hi => h s (by omega) (by rw [hi]; rfl)
    cases hr : rowP f i (toks s) t with
    | stuck => exact absurd hr h1
    | bad c => simp
    | good t' => exact linesP_ns r (i + 1) t' fun T hi hT => h T (by omega) (by rw [show 3 - i = (3 - (i + 1)) + 1 by omega]; exact hT)
theorem parseP_ns {f : Nat} {s : List UInt8} (h : ∀ T, (linesOf s)[3]? = some T → expP f 0 (toks T).tail 0 ≠ .stuck) : parseP f s ≠ .stuck := by
  by_cases hb : 4000 < s.length
  · unfold parseP; rw [if_pos hb]; simp
  have h1 := linesP_ns (f := f) (linesOf s) 0 rule0 fun T _ hT => h T hT
  rw [parse_end hb (i := (linesP f 0 (linesOf s) rule0).1) (R := (linesP f 0 (linesOf s) rule0).2) rfl]
  generalize (linesP f 0 (linesOf s) rule0).2 = R at h1 ⊢
  cases R with
  | stuck => exact absurd rfl h1
  | bad c => simp [endP]
  | good t =>
    rw [endP]
    by_cases h4 : (linesP f 0 (linesOf s) rule0).1 < 4
    · rw [if_pos h4]; simp
    · rw [if_neg h4]
      by_cases hp : perr t ≠ 0
      · rw [if_pos hp]; simp
      · rw [if_neg hp]; simp
/-- Fuel at which both ways to read agree. -/
theorem fuel (s : List UInt8) : ∃ f, parseP f s ≠ .stuck ∧ ∀ T, (linesOf s)[3]? = some T → expR f 1 (toks T).tail 0 = expP f 0 (toks T).tail 0 := by
  cases hl : (linesOf s)[3]? with
  | none => exact ⟨0, (parseP_ns fun T hT => by rw [hl] at hT; cases hT), (fun T hT => by cases hT)⟩
  | some T =>
    obtain ⟨R, hR, ⟨g1, h1⟩, ⟨g2, h2⟩⟩ := parse_both (toks T).tail 0 0 (by omega)
    refine ⟨g1 + g2, (parseP_ns fun T' hT => ?_), (fun T' hT => ?_)⟩
    · rw [hl] at hT; injection hT with hT; subst hT
      rw [h1 _ (by omega)]; exact hR
    · injection hT with hT; subst hT
      rw [h1 _ (by omega)]; exact h2 _ (by omega)
abbrev smallL : List UInt8 := [99, 97, 108, 101, 110, 100, 97, 114, 32, 115, 109, 97, 108, 108, 10, 101, 112, 111, 99, 104, 32, 49, 10, 99, 121, 99, 108, 101, 32, 56, 10, 108, 101, 97, 112, 32, 121, 32, 37, 32, 52, 32, 61, 32, 48, 10, 109, 111, 110, 116, 104, 32, 111, 110, 101, 32, 51, 49, 10, 109, 111, 110, 116, 104, 32, 116, 119, 111, 32, 50, 56, 32, 50, 57, 10]
def smallR : PRule := ⟨[115, 109, 97, 108, 108], 1, 8, .node 10 0 smallKids, [([111, 110, 101], 31, 31), ([116, 119, 111], 28, 29)]⟩
theorem small_parse : parseP 60 smallL = .good (.inr smallR) := by kernel_rfl
theorem treeV_len {w : World} {t : PRule} {k n : Int} {a : Option Addr} {m d : Nat} {am : Option Addr} {nm cm : Nat} (h : TreeV w t k n a m d am nm cm) : m = t.lp.kids.length ∧ nm = t.ms.length := by
  obtain ⟨_, _, _, _, _, _, h1, h2⟩ := h
  exact ⟨h1.len.1.symm, by have := h2.len; simpa using this.symm⟩
theorem treeV_then {w w' : World} {t : PRule} {k n : Int} {a : Option Addr} {m d : Nat} {am : Option Addr} {nm cm : Nat} (h : TreeV w t k n a m d am nm cm) (hb : Below w.heap.size w w') : TreeV w' t k n a m d am nm cm := by
  obtain ⟨h1, h2, h3, h4, h5, h6, h7, h8⟩ := h
  exact ⟨h1, h2, h3, h4, h5, h6, h7.then_ hb, (h8.below hb (Nat.le_refl _)).more hb.size⟩
theorem laid_lvl {W : World} {rest : List (String × DataW Unit)} {d : DataW Unit} (hd : d = Lib.tabData .i64 lvlL) (h : laidMet Tryd.prog (("ephemeris/rule.levels", d) :: rest) W) : Lvl W := by
  subst hd
  exact Lib.tabIs_of_head (g := 2) (t := 93) (e := 3) (n := 14) (by kernel_rfl) (by kernel_rfl) Tryd.underlying93 Tryd.underlying3 (by kernel_rfl) (by kernel_rfl) h
theorem laid_sgn {W : World} {rest : List (String × DataW Unit)} {d : DataW Unit} (hd : d = strData sgnL) (h : laidMet Tryd.prog (("ephemeris/rule.signs", d) :: rest) W) : Sgn W := by
  subst hd
  exact laid_strs (g := 1) (t := 92) (e := 9) (n := 14) (by kernel_rfl) (by kernel_rfl) Tryd.underlying92 Tryd.underlying9 (by kernel_rfl) (by kernel_rfl) h
/-- Two rules that hold the same are the same. -/
theorem same_c {t : PRule} {W W1 W2 : World} {k1 n1 k2 n2 : Int} {a1 a2 am1 am2 : Option Addr} {m1 d1 m2 d2 nm1 cm1 nm2 cm2 : Nat} (h1 : TreeV W1 t k1 n1 a1 m1 d1 am1 nm1 cm1) (h2 : TreeV W2 t k2 n2 a2 m2 d2 am2 nm2 cm2) (b1 : Below W1.heap.size W1 W) (b2 : Below W2.heap.size W2 W) :
    Calls Tryd.prog 5 #[.agg #[.string (tkS t.nm), .int .i64 t.ep, .int .i64 t.cy, .int .i64 k1, .int .i64 n1, .slice a1 m1 d1, .slice am1 nm1 cm1], .agg #[.string (tkS t.nm), .int .i64 t.ep, .int .i64 t.cy, .int .i64 k2, .int .i64 n2, .slice a2 m2 d2, .slice am2 nm2 cm2]] W fun e w' => e = .returned (.bool true) ∧ Below W.heap.size W w' := by
  have q1 := treeV_then h1 b1; have q2 := treeV_then h2 b2
  obtain ⟨e1, e2⟩ := treeV_len q1
  obtain ⟨e3, e4⟩ := treeV_len q2
  obtain ⟨rfl, rfl, _, _, _, _, s1, s2⟩ := q1
  obtain ⟨rfl, rfl, _, _, _, _, s3, s4⟩ := q2
  obtain rfl : m1 = m2 := by omega
  obtain rfl : nm1 = nm2 := by omega
  exact ref_SameRule t W (tkS t.nm) _ _ a1 a2 am1 am2 m1 d1 d2 nm1 cm1 cm2 (t.ms.map monO) rfl rfl s1 s3 s2 s4
theorem same_d (t : PRule) (N : ByteArray) (ep cy : Int) (hN : N = tkS t.nm) (he : ep = t.ep) (hc : cy = t.cy) {W W1 W2 : World} {k1 n1 k2 n2 : Int} {a1 a2 am1 am2 : Option Addr} {m1 d1 m2 d2 nm1 cm1 nm2 cm2 : Nat} (h1 : TreeV W1 t k1 n1 a1 m1 d1 am1 nm1 cm1) (h2 : TreeV W2 t k2 n2 a2 m2 d2 am2 nm2 cm2) (b1 : Below W1.heap.size W1 W) (b2 : Below W2.heap.size W2 W) :
    Calls Tryd.prog 5 #[.agg #[.string N, .int .i64 ep, .int .i64 cy, .int .i64 k1, .int .i64 n1, .slice a1 m1 d1, .slice am1 nm1 cm1], .agg #[.string N, .int .i64 ep, .int .i64 cy, .int .i64 k2, .int .i64 n2, .slice a2 m2 d2, .slice am2 nm2 cm2]] W fun e w' => e = .returned (.bool true) ∧ Below W.heap.size W w' := by
  subst hN he hc
  exact same_c h1 h2 b1 b2
theorem zero_v (W : World) : TreeV W rule0 0 0 none 0 0 none 0 0 :=
  ⟨rfl, rfl, by omega, by omega, by omega, by omega, by rw [show rule0.lp = .node 0 0 [] from rfl, SubAt]; exact ⟨I64_zero, I64_zero, rfl, by omega, fun h => absurd h (by omega)⟩, ⟨⟨rfl, by omega, fun h => absurd h (by omega)⟩, fun x hx => by simp [rule0] at hx⟩⟩
theorem small_v {W w' : World} {b : Nat} (h4 : At w' (b + 4) (.cells #[.int .i64 2, .int .i64 0, .slice none 0 0, .int .i64 1, .int .i64 4, .slice none 0 0] 24))
    (h5 : At w' (b + 5) (.cells #[.int .i64 8, .int .i64 0, .slice (some ⟨b + 4, 0, none⟩) 2 2, .int .i64 1, .int .i64 0, .slice none 0 0] 24))
    (h7 : At w' (b + 7) (.cells #[.string ⟨#[111, 110, 101]⟩, .int .i64 31, .int .i64 31, .string ⟨#[116, 119, 111]⟩, .int .i64 28, .int .i64 29] 43)) :
    TreeV w' smallR 10 0 (some ⟨b + 5, 0, none⟩) 2 2 (some ⟨b + 7, 0, none⟩) 2 2 :=
  ⟨rfl, rfl, by omega, by omega, by omega, by omega, small_tree h4.lt h5.lt h4 h5, small_months h7⟩
set_option maxHeartbeats 8000000 in
theorem core (w : World) (S : ByteArray) (hS : S.size ≤ 140737488355328) (hlv : Lvl w) (hsg : Sgn w) (hM : ∃ m : Int, w.cell? ⟨0, 0, none⟩ = some (.int .i64 m)) :
    Calls Tryd.prog 3 #[.string S] w fun e w' => e = .returned (.bool true) ∧ Below w.heap.size w w' := by
  obtain ⟨f, hns, hag⟩ := fuel S.data.toList
  have HNS := Lib.hid hns; have HAG := Lib.hid hag
  have HLV := Lib.hid hlv; have HSG := Lib.hid hsg; have HM := Lib.hid hM
  have CP := Lib.hid (show Calls Tryd.prog 4 #[.string ⟨smallL.toArray⟩] w (PPost w (.good (.inr smallR))) from by
    have h := rule_Parse ⟨smallL.toArray⟩ 60 w (by decide) hlv hsg (by rw [show (⟨smallL.toArray⟩ : ByteArray).data.toList = smallL from rfl, small_parse]; simp)
    rw [show (⟨smallL.toArray⟩ : ByteArray).data.toList = smallL from rfl, small_parse] at h
    exact h)
  clear hns hag hlv hsg hM
  go_enter Tryd.func3, Tryd.ntmps3
  go_upto_region 1 with fail
  go_cut [3, 4, 5] from 12 to 16 (fun v3 v4 v5 wx => ∃ (a : Option Addr) (m d : Nat) (am : Option Addr) (nm cm T1 : Nat), v3 = .pointer (some ⟨T1, 0, none⟩) ∧ v4 = .int .i64 0 ∧ v5 = .int .i64 0 ∧ At wx T1 (.cells #[.string ⟨#[115, 109, 97, 108, 108]⟩, .int .i64 1, .int .i64 8, .int .i64 10, .int .i64 0, .slice a m d, .slice am nm cm] 27) ∧ TreeV wx smallR 10 0 a m d am nm cm ∧ Below w.heap.size w wx)
  case first =>
    go_wp2_with fail
    refine CP.out.mono ?_
    rintro e w1 ⟨⟨k, n, a, m, d, am, nm, cm, he, htv⟩, hb1⟩
    obtain rfl : e = .returned (.tuple #[.agg #[.string ⟨#[115, 109, 97, 108, 108]⟩, .int .i64 1, .int .i64 8, .int .i64 k, .int .i64 n, .slice a m d, .slice am nm cm], .int .i64 0, .int .i64 0]) := he
    have hk : k = 10 := htv.1
    have hn : n = 0 := htv.2.1
    subst hk hn
    have HTV := Lib.hid htv
    obtain ⟨T1, hT1⟩ : ∃ b, b = w1.heap.size := ⟨_, rfl⟩
    have X1 := Lib.hid (At.newAt w1 (.cells #[.string ⟨#[115, 109, 97, 108, 108]⟩, .int .i64 1, .int .i64 8, .int .i64 10, .int .i64 0, .slice a m d, .slice am nm cm] 27) T1 hT1)
    have B1 := Lib.hid (below_new hb1 (.cells #[.string ⟨#[115, 109, 97, 108, 108]⟩, .int .i64 1, .int .i64 8, .int .i64 10, .int .i64 0, .slice a m d, .slice am nm cm] 27))
    have V1 := Lib.hid (treeV_then htv (below_new (Below.refl w1.heap.size w1) (.cells #[.string ⟨#[115, 109, 97, 108, 108]⟩, .int .i64 1, .int .i64 8, .int .i64 10, .int .i64 0, .slice a m d, .slice am nm cm] 27)))
    clear htv hb1 HTV CP
    go_wp2_with fail
    go_meet
    case rel => exact ⟨a, m, d, am, nm, cm, _, rfl, rfl, rfl, by rw [← hT1]; exact X1.out, V1.out, B1.out⟩
  case rest =>
    obtain ⟨a, m, d, am, nm, cm, T1, rfl, rfl, rfl, x1, v1, b1⟩ := hcut
    have X1 := Lib.hid x1; have V1 := Lib.hid v1; have B1 := Lib.hid b1
    clear x1 v1 b1 CP
    obtain ⟨W2, hW2⟩ : ∃ W, W = wc := ⟨_, rfl⟩
    rw [← hW2] at X1 V1 B1 ⊢
    clear hW2
    go_upto_region 2 with fail
    go_cut [28] from 17 to 28 (fun v wx => v = .bool false ∧ Below W2.heap.size W2 wx)
    case first =>
      have KK := Lib.hid (fun (W : World) (hW : Below W2.heap.size W2 W) => show W.cell? ⟨T1, 0, none⟩ = some (.string ⟨#[115, 109, 97, 108, 108]⟩) ∧ W.cell? ⟨T1, 1, none⟩ = some (.int .i64 1) ∧ W.cell? ⟨T1, 2, none⟩ = some (.int .i64 8) ∧ W.cell? ⟨T1, 3, none⟩ = some (.int .i64 10) ∧ W.cell? ⟨T1, 4, none⟩ = some (.int .i64 0) ∧ W.cell? ⟨T1, 5, none⟩ = some (.slice a m d) ∧ W.cell? ⟨T1, 6, none⟩ = some (.slice am nm cm) ∧ T1 < W.heap.size ∧ Below W2.heap.size W2 W from by have r := X1.out.then_ hW; exact ⟨r.cell 0, r.cell 1, r.cell 2, r.cell 3, r.cell 4, r.cell 5, r.cell 6, r.lt, hW⟩)
      refine wp_region_held_drew (S := (fun w' => w'.cell? ⟨T1, 0, none⟩ = some (.string ⟨#[115, 109, 97, 108, 108]⟩) ∧ w'.cell? ⟨T1, 1, none⟩ = some (.int .i64 1) ∧ w'.cell? ⟨T1, 2, none⟩ = some (.int .i64 8) ∧ w'.cell? ⟨T1, 3, none⟩ = some (.int .i64 10) ∧ w'.cell? ⟨T1, 4, none⟩ = some (.int .i64 0) ∧ w'.cell? ⟨T1, 5, none⟩ = some (.slice a m d) ∧ w'.cell? ⟨T1, 6, none⟩ = some (.slice am nm cm) ∧ T1 < w'.heap.size ∧ Below W2.heap.size W2 w')) (by kernel_rfl) ?_ (fun hHeld => ?_)
      · (try dsimp only); first | exact KK.out _ hbs2 | exact KK.out _ hbs | exact KK.out _ (Below.refl _ _).drew
      refine lex_take (i := 0) (v := ?_) rfl (by kernel_rfl) (by kernel_rfl) (by kernel_rfl) (fun _ _ _ h => h) (by rfl) ?_ (by assumption) ?_
      rotate_left
      · (intro w hSw; (try dsimp only at hSw); go_simp; try with_reducible rfl)
      try simp only [Act.put, List.setIfInBounds_toArray, List.set_cons_zero, List.set_cons_succ]
      refine lex_step (i := 1) rfl (by kernel_rfl) (by rfl) (fun Kx hKx => ?_)
      go_simp
      go_at_call 6; (with_reducible refine (law_small _).mono ?_); rintro e w' ⟨rfl, at1, at2, at3, hb⟩
      have SV := Lib.hid (show TreeV w' smallR 10 0 (some ⟨W2.heap.size + 5, 0, none⟩) 2 2 (some ⟨W2.heap.size + 7, 0, none⟩) 2 2 from small_v (W := w') (b := W2.heap.size) at1 at2 at3)
      have hbs : Below W2.heap.size W2 w' := below_then ((Below.refl _ W2).drew) hb
      have CS := Lib.hid (same_d smallR ⟨#[115, 109, 97, 108, 108]⟩ 1 8 rfl rfl rfl V1.out SV.out hbs (Below.refl _ w'))
      clear at1 at2 at3 hb
      try go_wp2_with fail
      refine hKx.out _ _ ?_ (fun hHeld => ?_)
      · (try dsimp only); first | exact KK.out _ hbs2 | exact KK.out _ hbs | exact KK.out _ (Below.refl _ _).drew
      clear hKx Kx
      try simp only [Act.put, List.setIfInBounds_toArray, List.set_cons_zero, List.set_cons_succ]
      refine lex_step (i := 2) rfl (by kernel_rfl) (by rfl) (fun Kx hKx => ?_)
      go_simp
      go_at_call 5; (with_reducible refine CS.out.mono ?_); rintro e w'' ⟨rfl, hb2⟩
      have hbs2 : Below W2.heap.size W2 w'' := below_then hbs hb2
      clear hb2
      try go_wp2_with fail
      refine hKx.out _ _ ?_ (fun hHeld => ?_)
      · (try dsimp only); first | exact KK.out _ hbs2 | exact KK.out _ hbs | exact KK.out _ (Below.refl _ _).drew
      clear hKx Kx
      try simp only [Act.put, List.setIfInBounds_toArray, List.set_cons_zero, List.set_cons_succ]
      refine lex_take (i := 3) (v := ?_) rfl (by kernel_rfl) (by kernel_rfl) (by kernel_rfl) (fun _ _ _ h => h) (by rfl) ?_ (by assumption) ?_
      rotate_left
      · (intro w hSw; (try dsimp only at hSw); go_simp; try with_reducible rfl)
      try simp only [Act.put, List.setIfInBounds_toArray, List.set_cons_zero, List.set_cons_succ]
      refine lex_take (i := 4) (v := ?_) rfl (by kernel_rfl) (by kernel_rfl) (by kernel_rfl) (fun _ _ _ h => h) (by rfl) ?_ (by assumption) ?_
      rotate_left
      · (intro w hSw; (try dsimp only at hSw); go_simp; try with_reducible rfl)
      try simp only [Act.put, List.setIfInBounds_toArray, List.set_cons_zero, List.set_cons_succ]
      refine lex_take (i := 5) (v := ?_) rfl (by kernel_rfl) (by kernel_rfl) (by kernel_rfl) (fun _ _ _ h => h) (by rfl) ?_ (by assumption) ?_
      rotate_left
      · (intro w hSw; (try dsimp only at hSw); go_simp; try with_reducible rfl)
      try simp only [Act.put, List.setIfInBounds_toArray, List.set_cons_zero, List.set_cons_succ]
      refine lex_take (i := 6) (v := ?_) rfl (by kernel_rfl) (by kernel_rfl) (by kernel_rfl) (fun _ _ _ h => h) (by rfl) ?_ (by assumption) ?_
      rotate_left
      · (intro w hSw; (try dsimp only at hSw); go_simp; try with_reducible rfl)
      try simp only [Act.put, List.setIfInBounds_toArray, List.set_cons_zero, List.set_cons_succ]
      refine lex_take (i := 7) (v := ?_) rfl (by kernel_rfl) (by kernel_rfl) (by kernel_rfl) (fun _ _ _ h => h) (by rfl) ?_ (by assumption) ?_
      rotate_left
      · (intro w hSw; (try dsimp only at hSw); go_simp; try with_reducible rfl)
      try simp only [Act.put, List.setIfInBounds_toArray, List.set_cons_zero, List.set_cons_succ]
      refine lex_take (i := 8) (v := ?_) rfl (by kernel_rfl) (by kernel_rfl) (by kernel_rfl) (fun _ _ _ h => h) (by rfl) ?_ (by assumption) ?_
      rotate_left
      · (intro w hSw; (try dsimp only at hSw); go_simp; try with_reducible rfl)
      try simp only [Act.put, List.setIfInBounds_toArray, List.set_cons_zero, List.set_cons_succ]
      refine lex_take (i := 9) (v := ?_) rfl (by kernel_rfl) (by kernel_rfl) (by kernel_rfl) (fun _ _ _ h => h) (by rfl) ?_ (by assumption) ?_
      rotate_left
      · (intro w hSw; (try dsimp only at hSw); go_simp; try with_reducible rfl)
      try simp only [Act.put, List.setIfInBounds_toArray, List.set_cons_zero, List.set_cons_succ]
      refine lex_take (i := 10) (v := ?_) rfl (by kernel_rfl) (by kernel_rfl) (by kernel_rfl) (fun _ _ _ h => h) (by rfl) ?_ (by assumption) ?_
      rotate_left
      · (intro w hSw; (try dsimp only at hSw); go_simp; try with_reducible rfl)
      try simp only [Act.put, List.setIfInBounds_toArray, List.set_cons_zero, List.set_cons_succ]
      refine lex_take (i := 11) (v := ?_) rfl (by kernel_rfl) (by kernel_rfl) (by kernel_rfl) (fun _ _ _ h => h) (by rfl) ?_ (by assumption) ?_
      rotate_left
      · (intro w hSw; (try dsimp only at hSw); go_simp; try with_reducible rfl)
      try simp only [Act.put, List.setIfInBounds_toArray, List.set_cons_zero, List.set_cons_succ]
      refine wpAnyH_done (by kernel_rfl) ?_ _
      go_wp2_with fail
      go_meet
      case rel => exact ⟨rfl, hbs2⟩
    case rest =>
      obtain ⟨rfl, hb⟩ := hcut
      have B3 := Lib.hid (below_then B1.out hb)
      clear hb X1 V1 B1
      obtain ⟨RR, hRR⟩ : ∃ RR, RR = parseP f S.data.toList := ⟨_, rfl⟩
      obtain ⟨mx, hmx⟩ := HM.out
      have hgM : 0 < w.heap.size := World.block_lt_of_cell? _ _ hmx
      have C4 := Lib.hid (show Calls Tryd.prog 4 #[.string S] wc (PPost wc RR) from by rw [hRR]; exact rule_Parse S f wc (by omega) (HLV.out.below B3.out) (HSG.out.below B3.out) HNS.out)
      have C5 := Lib.hid (fun (W : World) (hW : Below w.heap.size w W) => show Calls Tryd.prog 7 #[.string S] W (PPost W RR) from by
        rw [hRR]; exact ref_RuleParse S f W (by omega) ⟨mx, (hW.cell (p := ⟨0, 0, none⟩) hgM).trans hmx⟩ HNS.out HAG.out)
      clear hRR hmx hgM HLV HSG HM HNS HAG
      go_wp2_with fail
      refine C4.out.mono ?_
      rcases RR with _ | c | (p | t)
      · intro e w4 hp; exact hp.elim
      · intro e w4 hp; exact hp.elim
      · intro e w4 hp
        obtain ⟨rfl, hb4⟩ := hp
        obtain ⟨T6, hT6⟩ : ∃ b, b = w4.heap.size := ⟨_, rfl⟩
        have X6 := Lib.hid (At.newAt w4 zT T6 hT6)
        have B5 := Lib.hid (below_new (below_then B3.out hb4) zT)
        clear hb4 C4 B3
        go_upto_region 5 with fail
        rw [← hT6]
        clear hT6
        generalize World.alloc w4 _ = W5 at X6 B5 ⊢
        go_wp2_with fail
        refine (C5.out W5 B5.out).mono ?_
        intro e w6 hp
        obtain ⟨rfl, hb6⟩ := hp
        obtain ⟨T9, hT9⟩ : ∃ b, b = w6.heap.size := ⟨_, rfl⟩
        have X9 := Lib.hid (At.newAt w6 zT T9 hT9)
        have X6' := Lib.hid ((X6.out.then_ hb6).alloc zT)
        have B7 := Lib.hid (below_new (below_then B5.out hb6) zT)
        clear hb6 C5 B5 X6
        go_upto_region 6 with fail
        rw [← hT9]
        clear hT9
        generalize World.alloc w6 _ = W7 at X9 X6' B7 ⊢
        have x0 := X6'.out.cell 0; have x1 := X6'.out.cell 1; have x2 := X6'.out.cell 2; have x3 := X6'.out.cell 3; have x4 := X6'.out.cell 4; have x5 := X6'.out.cell 5; have x6 := X6'.out.cell 6
        simp at x0 x1 x2 x3 x4 x5 x6
        have y0 := X9.out.cell 0; have y1 := X9.out.cell 1; have y2 := X9.out.cell 2; have y3 := X9.out.cell 3; have y4 := X9.out.cell 4; have y5 := X9.out.cell 5; have y6 := X9.out.cell 6
        simp at y0 y1 y2 y3 y4 y5 y6
        have l6 := X6'.out.lt; have l9 := X9.out.lt
        go_wp2_with fail
        refine (same_d rule0 ⟨#[]⟩ 0 0 rfl rfl rfl (zero_v W7) (zero_v W7) (Below.refl _ _) (Below.refl _ _)).mono ?_
        rintro e w8 ⟨rfl, hb8⟩
        go_wp2_with fail
        go_ret
        exact ⟨ret_bool (by simp), below_then B7.out hb8⟩
      · intro e w4 hp
        obtain ⟨⟨k4, n4, a4, m4, d4, am4, nm4, cm4, rfl, hv4⟩, hb4⟩ := hp
        obtain ⟨T6, hT6⟩ : ∃ b, b = w4.heap.size := ⟨_, rfl⟩
        have X6 := Lib.hid (At.newAt w4 (trO t k4 n4 a4 m4 d4 (.slice am4 nm4 cm4)) T6 hT6)
        have B5 := Lib.hid (below_new (below_then B3.out hb4) (trO t k4 n4 a4 m4 d4 (.slice am4 nm4 cm4)))
        have V5 := Lib.hid (treeV_then hv4 (below_new (Below.refl w4.heap.size w4) (trO t k4 n4 a4 m4 d4 (.slice am4 nm4 cm4))))
        clear hb4 C4 B3 hv4
        go_upto_region 5 with fail
        rw [← hT6]
        clear hT6
        generalize World.alloc w4 _ = W5 at X6 B5 V5 ⊢
        go_wp2_with fail
        refine (C5.out W5 B5.out).mono ?_
        intro e w6 hp
        obtain ⟨⟨k6, n6, a6, m6, d6, am6, nm6, cm6, rfl, hv6⟩, hb6⟩ := hp
        obtain ⟨T9, hT9⟩ : ∃ b, b = w6.heap.size := ⟨_, rfl⟩
        have X9 := Lib.hid (At.newAt w6 (trO t k6 n6 a6 m6 d6 (.slice am6 nm6 cm6)) T9 hT9)
        have X6' := Lib.hid ((X6.out.then_ hb6).alloc (trO t k6 n6 a6 m6 d6 (.slice am6 nm6 cm6)))
        have B7 := Lib.hid (below_new (below_then B5.out hb6) (trO t k6 n6 a6 m6 d6 (.slice am6 nm6 cm6)))
        have V7 := Lib.hid (treeV_then hv6 (below_new (Below.refl w6.heap.size w6) (trO t k6 n6 a6 m6 d6 (.slice am6 nm6 cm6))))
        have V6 := Lib.hid (treeV_then (treeV_then V5.out hb6) (below_new (Below.refl w6.heap.size w6) (trO t k6 n6 a6 m6 d6 (.slice am6 nm6 cm6))))
        clear hb6 C5 B5 X6 V5 hv6
        go_upto_region 6 with fail
        rw [← hT9]
        clear hT9
        generalize World.alloc w6 _ = W7 at X9 X6' B7 V7 V6 ⊢
        have x0 := X6'.out.cell 0; have x1 := X6'.out.cell 1; have x2 := X6'.out.cell 2; have x3 := X6'.out.cell 3; have x4 := X6'.out.cell 4; have x5 := X6'.out.cell 5; have x6 := X6'.out.cell 6
        simp at x0 x1 x2 x3 x4 x5 x6
        have y0 := X9.out.cell 0; have y1 := X9.out.cell 1; have y2 := X9.out.cell 2; have y3 := X9.out.cell 3; have y4 := X9.out.cell 4; have y5 := X9.out.cell 5; have y6 := X9.out.cell 6
        simp at y0 y1 y2 y3 y4 y5 y6
        have l6 := X6'.out.lt; have l9 := X9.out.lt
        go_wp2_with fail
        refine (same_d t (tkS t.nm) t.ep t.cy rfl rfl rfl V6.out V7.out (Below.refl _ _) (Below.refl _ _)).mono ?_
        rintro e w8 ⟨rfl, hb8⟩
        go_wp2_with fail
        go_ret
        exact ⟨ret_bool (by simp), below_then B7.out hb8⟩
theorem walk {H : Type} {enc : TypeId × Value → H} {v0 : Value} {d0 : DataW H} {p0 : List MemPlace} {base : Nat} (W : World)
    (o0 : Value.okWide Tryd.prog W .any base 9 v0) (h0 : DataW.Trod enc Tryd.prog W 0 (fun _ => true) true 9 v0 d0 p0)
    (hsz : ∀ bytes, d0 = .lit (.string bytes) → bytes.length ≤ reachBytes) (hL : laidMet Tryd.prog Rows.ruleParsesRow.laid W) (hsh : W.ShapedOpen Tryd.prog) :
    Calls Tryd.prog 3 #[v0] W fun e w' => e = .returned (.bool true) ∧ Below W.heap.size W w' := by
  obtain ⟨s, rfl, rfl, rfl, hs⟩ := Go.ChangeMaps.open_string Tryd.underlying9 o0 h0
  have hlim : s.size ≤ 140737488355328 := by
    have h1 := hsz s.data.toList rfl
    have h2 := reachBytes_lt
    have e3 : (2 : Nat) ^ 47 = 140737488355328 := by decide
    rw [str_len] at h1
    omega
  exact core W s hlim (laid_lvl rfl hL.tail.tail.tail.tail.tail.tail) (laid_sgn rfl hL.tail.tail.tail.tail.tail.tail.tail) (Tryd.laysLaysMn146.s1_3 W hsh)
end Go.Proofs.YtchahccnmjaejacDoor.ruleParsesLaw
