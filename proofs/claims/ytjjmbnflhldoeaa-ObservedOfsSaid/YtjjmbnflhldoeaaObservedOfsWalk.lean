/- ObservedOfs: the Go text returns true at every input, and writes nothing that was there. -/
import Derived.Test.YtjjmbnflhldoeaaOf2
import Derived.Test.YtjjmbnflhldoeaaMoonOpen
import Derived.Test.YtjjmbnflhldoeaaPlainMoon
import Derived.Test.YtjjmbnflhldoeaaMoon3
import Derived.Deep.RegionLaw
namespace Go.Proofs.Ytjjmbnflhldoeaa.observedOfsLaw
set_option linter.unusedVariables false
set_option maxRecDepth 100000
open Go.RowKit Go.ChangeShapes Go.WideShapes

theorem tab_drew {W : World} {B : Nat} {s : ByteArray} {f : Int} {p q : Value} {ms ds : List Int} (h : Tab W B s f p q ms ds) : Tab W.drew B s f p q ms ds :=
  ⟨h.box.drew, own_move h.row1 fun g o _ a => a.drew, own_move h.row2 fun g o _ a => a.drew, h.dist⟩
theorem tab_slot1 {W w4 : World} {B : Nat} {s : ByteArray} {first : Int} {p q : Value} {ms ds : List Int} {o : Obj} (h : Tab W B s first p q ms ds) (hg : (W.alloc o).grownBy w4 p.ownBlock) :
    w4.cell? ⟨B, 2, none⟩ = some p ∧ w4.frozen? ⟨B, 2, none⟩ = false ∧ B < w4.heap.size := by
  have a := (h.box.alloc o).grown hg (fun e => by have := (own_block h.row1 e).1; omega)
  exact ⟨a.cell 2, a.frozen 2, a.lt⟩
theorem tab_slot2 {W w4 : World} {B : Nat} {s : ByteArray} {first : Int} {p q : Value} {ms ds : List Int} {o : Obj} (h : Tab W B s first p q ms ds) (hg : (W.alloc o).grownBy w4 q.ownBlock) :
    w4.cell? ⟨B, 3, none⟩ = some q ∧ w4.frozen? ⟨B, 3, none⟩ = false ∧ B < w4.heap.size := by
  have a := (h.box.alloc o).grown hg (fun e => by have := (own_block h.row2 e).1; omega)
  exact ⟨a.cell 3, a.frozen 3, a.lt⟩
theorem iv_cells {w : World} {base : Nat} {v : Value} {xs : List Int} (h : w.ownsRow base 3 1 v xs.length (iv xs)) (hn : 0 < xs.length) :
    ∃ g c, v = .slice (some ⟨g, 0, none⟩) xs.length c ∧ g < w.heap.size ∧ ∀ i, i < xs.length → w.cell? ⟨g, i, none⟩ = some (.int .i64 (xs.getD i 0)) := by
  rcases h.2 with ⟨_, h0⟩ | ⟨g, cap, cur, rfl, hg, hat, hnc, hcm, hcs, htake⟩
  · have : xs.length = 0 := h0
    omega
  · have hAt : At w g (.cells cur 3) := hat
    refine ⟨g, cap, rfl, hAt.lt, fun i hi => ?_⟩
    rw [hAt.cell]
    have h1 : (cur.toList.take (xs.length * 1))[i]? = (iv xs)[i]? := by rw [htake]
    rw [List.getElem?_take, if_pos (by omega), Array.getElem?_toList] at h1
    rw [h1]
    simp [iv, hi]
theorem wf_I64 {x : Int} (h : (Lit.int .i64 x).wf = true) : I64 x := by
  unfold Lit.wf at h
  rw [Bool.and_eq_true, decide_eq_true_eq, decide_eq_true_eq] at h
  have e1 : IntKind.i64.min = -9223372036854775808 := by decide
  have e2 : IntKind.i64.max = 9223372036854775807 := by decide
  rw [e1, e2] at h
  exact h
theorem dayB_in {x : Int} (h : dayB x = true) : I64 x := by
  have := inB_iff.1 h
  unfold I64; omega
theorem mon_in {mt : Int → Int} (hm : ∀ y, mt y = 12 ∨ mt y = 13) (first : Int) (k : Nat) : ∀ x ∈ monS mt first k, I64 x := by
  intro x hx
  obtain ⟨i, _, rfl⟩ := List.mem_map.1 hx
  have := hm (first + (i : Int))
  unfold I64; omega
/-- What observed.Of hands back, in one form. -/
def TF (s : ByteArray) (first : Int) (ms ds : List Int) (w' : World) (ts : ByteArray) (tf te : Int) (ta ua : Option Addr) (tn un : Nat) : Prop :=
  (ds.all dayB = true ∧ te = 0 ∧ ts = s ∧ tf = first ∧ Ints w' w'.heap.size ta tn ms ∧ Ints w' w'.heap.size ua un ds) ∨ (ds.all dayB = false ∧ te = 3 ∧ ts = ⟨#[]⟩ ∧ tf = 0 ∧ ta = none ∧ tn = 0 ∧ ua = none ∧ un = 0)
theorem of_form {s : ByteArray} {first : Int} {ms ds : List Int} {w w' : World} {e : Ending} (hms : ∀ x ∈ ms, I64 x) (h : OfPost s first ms ds w e w') :
    ∃ ts tf te ta tn tc ua un uc, e = .returned (.tuple #[.agg #[.string ts, .int .i64 tf, .slice ta tn tc, .slice ua un uc], .int .i64 te]) ∧ TF s first ms ds w' ts tf te ta ua tn un ∧ Below w.heap.size w w' := by
  rcases h with ⟨ha, p, q, rfl, r1, r2, hb⟩ | ⟨ha, rfl, hb⟩
  · obtain ⟨a1, c1, rfl, i1⟩ := iv_ints r1 hms
    obtain ⟨a2, c2, rfl, i2⟩ := iv_ints r2 (fun x hx => dayB_in (List.all_eq_true.1 ha x hx))
    exact ⟨s, first, 0, a1, _, c1, a2, _, c2, rfl, .inl ⟨ha, rfl, rfl, rfl, i1, i2⟩, hb⟩
  · exact ⟨_, _, _, _, _, _, _, _, _, rfl, .inr ⟨ha, rfl, rfl, rfl, rfl, rfl, rfl, rfl⟩, hb⟩
def L13 : List Int := fullS (mths 1 []) (begD 1 0 1 59 2 1 1 1 2 [] []) 1 1
theorem l13 : L13.length = 13 ∧ L13.all dayB = true ∧ L13.getD 1 0 = 30 ∧ L13.getD 12 0 = 355 := by decide +kernel
theorem of_plain (w : World) : Calls Try.prog 15 #[.agg #[.string ⟨#[112, 108, 97, 105, 110]⟩, .int .i64 1, .int .i64 0, .int .i64 1, .int .i64 59, .int .i64 2, .int .i64 1, .int .i64 1, .int .i64 1, .slice none 0 0, .slice none 0 0], .int .i64 1, .int .i64 1] w fun e w' =>
    ∃ ta tn tc ub uo uc, e = .returned (.tuple #[.agg #[.string ⟨#[112, 108, 97, 105, 110]⟩, .int .i64 1, .slice ta tn tc, .slice (some ⟨ub, uo, none⟩) 13 uc], .int .i64 0]) ∧ ub < w'.heap.size ∧ w'.cell? ⟨ub, uo + 1, none⟩ = some (.int .i64 30) ∧ w'.cell? ⟨ub, uo + 12, none⟩ = some (.int .i64 355) ∧ Below w.heap.size w w' := by
  have h := observed_Of_ok w ⟨#[112, 108, 97, 105, 110]⟩ 1 0 1 59 2 1 1 1 none none 0 0 0 0 [] [] 2 1 1 (by decide) plain_ints (plain_at w) plain_err plain_ok (by omega) (by omega) (by omega) (by omega)
  refine h.mono ?_
  intro e w' hp
  obtain ⟨h13, hall, h1, h12⟩ := l13
  rcases hp with ⟨_, p, q, rfl, r1, r2, hb⟩ | ⟨ha, _⟩
  · obtain ⟨ta, tc, rfl, i1⟩ := iv_ints r1 (mon_in (mths_in 1 []) 1 1)
    obtain ⟨ua, uc, rfl, i2⟩ := iv_ints r2 (fun x hx => dayB_in (List.all_eq_true.1 hall x hx))
    have e13 : (fullS (mths 1 []) (begD 1 0 1 59 2 1 1 1 2 [] []) 1 1).length = 13 := h13
    rw [e13] at i2 ⊢
    obtain ⟨ub, uo, rfl, hlt, hc⟩ := i2.2.2.2 (by omega)
    exact ⟨ta, _, tc, ub, uo, uc, rfl, hlt, (hc 1 (by omega)).trans (by show some (Value.int .i64 (L13.getD 1 0)) = _; rw [h1]), (hc 12 (by omega)).trans (by show some (Value.int .i64 (L13.getD 12 0)) = _; rw [h12]), hb⟩
  · exact absurd (show L13.all dayB = false from ha) (by rw [hall]; simp)
theorem zero_same (w : World) : Calls Try.prog 22 #[zeroV, zeroV] w fun e w' => e = .returned (.bool true) ∧ Below w.heap.size w w' :=
  ref_SameTable w ⟨#[]⟩ 0 none none none none 0 0 0 0 0 0 0 0 [] [] ⟨rfl, by omega, by simp, fun h => absurd h (by omega)⟩ ⟨rfl, by omega, by simp, fun h => absurd h (by omega)⟩ ⟨rfl, by omega, by simp, fun h => absurd h (by omega)⟩ ⟨rfl, by omega, by simp, fun h => absurd h (by omega)⟩
set_option maxHeartbeats 16000000 in
theorem core (w : World) (s : ByteArray) (f sn sd mn md ln ld c : Int) (a1 a2 : Option Addr) (n1 c1 n2 c2 : Nat) (ls vs : List Int) (first years : Int) (hs : s.size ≤ 9223372036854775807) (hmi : MoonI sn sd mn md ln ld) (hf : I64 first) (hy : I64 years) (h : MoonAt w a1 a2 n1 n2 ls vs) :
    Calls Try.prog 4 #[.agg #[.string s, .int .i64 f, .int .i64 sn, .int .i64 sd, .int .i64 mn, .int .i64 md, .int .i64 ln, .int .i64 ld, .int .i64 c, .slice a1 n1 c1, .slice a2 n2 c2], .int .i64 first, .int .i64 years] w fun e w' => e = .returned (.bool true) ∧ Below w.heap.size w w' := by
  obtain ⟨i0, hi, hz0, hz1, hz2⟩ := info_parts Try.infoInt'
  have H := Lib.hid h; have HMI := Lib.hid hmi; clear h hmi
  go_enter Try.func4, Try.ntmps4
  go_wp2_with fail
  refine (law_plainMoon _).mono ?_
  rintro e w1 ⟨rfl, hb⟩
  have b1 := below_then (below_new (Below.refl w.heap.size w) (.cells #[.string s, .int .i64 f, .int .i64 sn, .int .i64 sd, .int .i64 mn, .int .i64 md, .int .i64 ln, .int .i64 ld, .int .i64 c, .slice a1 n1 c1, .slice a2 n2 c2] 42)) hb
  have ar := (At.new w (.cells #[.string s, .int .i64 f, .int .i64 sn, .int .i64 sd, .int .i64 mn, .int .i64 md, .int .i64 ln, .int .i64 ld, .int .i64 c, .slice a1 n1 c1, .slice a2 n2 c2] 42)).then_ hb
  go_wp2_with fail
  refine (of_plain _).mono ?_
  rintro e w2 ⟨ta, tn, tc, ub, uo, uc, rfl, hul, hc1, hc12, hb2⟩
  have B2 := Lib.hid (below_then b1 hb2); have AR := Lib.hid (ar.then_ hb2)
  clear b1 ar hb hb2
  go_upto_region 4 with fail
  have BT := Lib.hid (below_new B2.out (.cells #[.string ⟨#[112, 108, 97, 105, 110]⟩, .int .i64 1, .slice ta tn tc, .slice (some ⟨ub, uo, none⟩) 13 uc] 44))
  have AR2 := Lib.hid (AR.out.alloc (.cells #[.string ⟨#[112, 108, 97, 105, 110]⟩, .int .i64 1, .slice ta tn tc, .slice (some ⟨ub, uo, none⟩) 13 uc] 44))
  generalize World.alloc w2 _ = W2 at BT AR2 ⊢
  clear B2 AR hul hc1 hc12
  have hy1 := hy.1; have hy2 := hy.2
  clear hy

  go_cut [50] from 45 (fun b wx => ∃ bb : Bool, b = .bool bb ∧ bb = (decide (4 < years) && decide (years ≤ 40)) ∧ W2 = wx)
  case first =>
    by_cases h4 : years ≤ 4
    · have d1 : ¬ 4 < years := by omega
      go_wp2_with fail
      go_meet
      case rel => exact ⟨false, rfl, by simp; omega, rfl⟩
    · have d1 : 4 < years := by omega
      by_cases h40 : years ≤ 40
      · go_wp2_with fail
        go_meet
        case rel => exact ⟨true, rfl, by simp; omega, rfl⟩
      · have d2 : ¬ years ≤ 40 := h40
        go_wp2_with fail
        go_meet
        case rel => exact ⟨false, rfl, by simp; omega, rfl⟩
  case rest =>
  obtain ⟨bb, rfl, hbb, rfl⟩ := hcut
  go_upto_if 50 with fail
  go_cut [2] from 51 (fun y wx => ∃ yq : Int, y = .int .i64 yq ∧ (yq ≤ 4 ∨ 40 < yq) ∧ -9223372036854775808 ≤ yq ∧ yq ≤ 9223372036854775807 ∧ W2 = wx)
  case first =>
    cases bb with
    | true =>
      have hb2 : 4 < years ∧ years ≤ 40 := by simpa using hbb.symm
      have h4 := hb2.1
      have h5 := hb2.2
      clear hbb hb2
      go_wp2_with fail
      go_meet
      case rel => exact ⟨_, rfl, by omega, by omega, by omega, rfl⟩
    | false =>
      have hb2 : years ≤ 4 ∨ 40 < years := by
        by_cases h4 : years ≤ 4
        · exact .inl h4
        · right
          have : ¬ years ≤ 40 := by
            intro h40
            rw [decide_eq_true (show 4 < years by omega), decide_eq_true h40] at hbb
            cases hbb
          omega
      clear hbb
      go_wp2_with fail
      go_meet
      case rel => exact ⟨_, rfl, hb2, by omega, by omega, rfl⟩
  case rest =>
  obtain ⟨yq, rfl, hyq, yb1, yb2, rfl⟩ := hcut
  clear hy1 hy2 hbb
  obtain ⟨E, hE⟩ : ∃ E, E = moonErr s f sn sd mn md ln ld c ls vs := ⟨_, rfl⟩
  have HE := Lib.hid hE
  clear hE
  have x0 : W2.cell? ⟨w.heap.size, 0, none⟩ = some (.string s) := (AR2.out).cell 0
  have x1 : W2.cell? ⟨w.heap.size, 1, none⟩ = some (.int .i64 f) := (AR2.out).cell 1
  have x2 : W2.cell? ⟨w.heap.size, 2, none⟩ = some (.int .i64 sn) := (AR2.out).cell 2
  have x3 : W2.cell? ⟨w.heap.size, 3, none⟩ = some (.int .i64 sd) := (AR2.out).cell 3
  have x4 : W2.cell? ⟨w.heap.size, 4, none⟩ = some (.int .i64 mn) := (AR2.out).cell 4
  have x5 : W2.cell? ⟨w.heap.size, 5, none⟩ = some (.int .i64 md) := (AR2.out).cell 5
  have x6 : W2.cell? ⟨w.heap.size, 6, none⟩ = some (.int .i64 ln) := (AR2.out).cell 6
  have x7 : W2.cell? ⟨w.heap.size, 7, none⟩ = some (.int .i64 ld) := (AR2.out).cell 7
  have x8 : W2.cell? ⟨w.heap.size, 8, none⟩ = some (.int .i64 c) := (AR2.out).cell 8
  have x9 : W2.cell? ⟨w.heap.size, 9, none⟩ = some (.slice a1 n1 c1) := (AR2.out).cell 9
  have x10 : W2.cell? ⟨w.heap.size, 10, none⟩ = some (.slice a2 n2 c2) := (AR2.out).cell 10
  have zl := AR2.out.lt
  go_wp2_with fail
  by_cases hR : ofErr E first yq = 0
  case neg =>
    have hcase : (E ≠ 0 ∧ ofErr E first yq = E) ∨ (E = 0 ∧ inB 1 40 yq = false ∧ ofErr E first yq = 1) ∨ (E = 0 ∧ inB 1 40 yq = true ∧ inB (-10000) 9960 first = false ∧ ofErr E first yq = 3) := by
      unfold ofErr at hR ⊢
      by_cases h0 : E = 0
      · subst h0
        rw [if_neg (by simp)] at hR ⊢
        cases h1 : inB 1 40 yq with
        | true =>
          rw [h1, if_neg (by simp)] at hR
          rw [if_neg (by simp)]
          cases h2 : inB (-10000) 9960 first with
          | true => rw [h2, if_neg (by simp)] at hR; exact absurd rfl hR
          | false => rw [if_pos rfl]; exact .inr (.inr ⟨rfl, rfl, rfl, rfl⟩)
        | false => rw [if_pos rfl]; exact .inr (.inl ⟨rfl, rfl, rfl⟩)
      · rw [if_pos h0]; exact .inl ⟨h0, rfl⟩
    have HC := Lib.hid hcase
    rw [HE.out] at hR
    refine (observed_Of_err W2 s f sn sd mn md ln ld c a1 a2 n1 c1 n2 c2 ls vs first yq hs HMI.out (H.out.then_ BT.out) hR).mono ?_
    rw [← HE.out]
    obtain ⟨R, hRR⟩ : ∃ R, R = ofErr E first yq := ⟨_, rfl⟩
    rw [← hRR] at HC ⊢
    rintro e W3 ⟨rfl, hb⟩
    have BT3 := Lib.hid (below_then BT.out hb); have AR3 := Lib.hid (AR2.out.then_ hb)
    clear hb hR hcase hRR x0 x1 x2 x3 x4 x5 x6 x7 x8 x9 x10 zl BT AR2
    have x0 : W3.cell? ⟨w.heap.size, 0, none⟩ = some (.string s) := (AR3.out).cell 0
    have x1 : W3.cell? ⟨w.heap.size, 1, none⟩ = some (.int .i64 f) := (AR3.out).cell 1
    have x2 : W3.cell? ⟨w.heap.size, 2, none⟩ = some (.int .i64 sn) := (AR3.out).cell 2
    have x3 : W3.cell? ⟨w.heap.size, 3, none⟩ = some (.int .i64 sd) := (AR3.out).cell 3
    have x4 : W3.cell? ⟨w.heap.size, 4, none⟩ = some (.int .i64 mn) := (AR3.out).cell 4
    have x5 : W3.cell? ⟨w.heap.size, 5, none⟩ = some (.int .i64 md) := (AR3.out).cell 5
    have x6 : W3.cell? ⟨w.heap.size, 6, none⟩ = some (.int .i64 ln) := (AR3.out).cell 6
    have x7 : W3.cell? ⟨w.heap.size, 7, none⟩ = some (.int .i64 ld) := (AR3.out).cell 7
    have x8 : W3.cell? ⟨w.heap.size, 8, none⟩ = some (.int .i64 c) := (AR3.out).cell 8
    have x9 : W3.cell? ⟨w.heap.size, 9, none⟩ = some (.slice a1 n1 c1) := (AR3.out).cell 9
    have x10 : W3.cell? ⟨w.heap.size, 10, none⟩ = some (.slice a2 n2 c2) := (AR3.out).cell 10
    have zl := AR3.out.lt
    go_wp2_with fail
    have bt4 := below_new BT3.out zeroT
    have at4 := At.new W3 zeroT
    have ar4 := AR3.out.alloc zeroT
    generalize World.alloc W3 _ = W4 at bt4 at4 ar4 ⊢
    refine (ref_MoonError W4 s f sn sd mn md ln ld c a1 a2 n1 c1 n2 c2 ls vs hs HMI.out (H.out.then_ bt4)).mono ?_
    rw [← HE.out]
    rintro e W5 ⟨rfl, hb⟩
    have BT5 := Lib.hid (below_then bt4 hb); have AR5 := Lib.hid (ar4.then_ hb); have AT5 := Lib.hid (at4.then_ hb)
    clear hb bt4 at4 ar4 x0 x1 x2 x3 x4 x5 x6 x7 x8 x9 x10 zl
    have x0 : W5.cell? ⟨w.heap.size, 0, none⟩ = some (.string s) := AR5.out.cell 0
    have zl := AR5.out.lt
    have t0 : W5.cell? ⟨W3.heap.size, 0, none⟩ = some (.string ⟨#[]⟩) := AT5.out.cell 0
    have t1 : W5.cell? ⟨W3.heap.size, 1, none⟩ = some (.int .i64 0) := AT5.out.cell 1
    have t2 : W5.cell? ⟨W3.heap.size, 2, none⟩ = some (.slice none 0 0) := AT5.out.cell 2
    have t3 : W5.cell? ⟨W3.heap.size, 3, none⟩ = some (.slice none 0 0) := AT5.out.cell 3
    have tl := AT5.out.lt
    rcases HC.out with ⟨h0, h1⟩ | ⟨h0, h1, h2⟩ | ⟨h0, h1, h2, h3⟩
    · subst h1
      have z1 : (R == 0) = false := by simpa using h0
      have z2 : (R != 0) = true := by simpa using h0
      clear h0 HC HE
      go_wp2_with fail
      refine wp_loop_rounds 1 ?_; rw [rounds_succ]
      go_wp2_with fail
      refine (zero_same _).mono ?_
      rintro e W6 ⟨rfl, hb⟩
      go_wp2_with fail
      go_ret
      exact ⟨ret_bool (by simp), below_then (below_new BT5.out _) hb⟩
    · subst h2
      subst h0
      clear HC HE
      go_wp2_with fail
      refine (ref_In _ _ _ _).mono ?_; rw [h1]; rintro e w6 ⟨rfl, rfl⟩
      go_wp2_with fail
      refine wp_loop_rounds 1 ?_; rw [rounds_succ]
      go_wp2_with fail
      refine (zero_same _).mono ?_
      rintro e W6 ⟨rfl, hb⟩
      go_wp2_with fail
      go_ret
      exact ⟨ret_bool (by simp), below_then (below_new BT5.out _) hb⟩
    · subst h3
      subst h0
      clear HC HE
      go_wp2_with fail
      refine (ref_In _ _ _ _).mono ?_; rw [h1]; rintro e w6 ⟨rfl, rfl⟩
      go_wp2_with fail
      refine (ref_In _ _ _ _).mono ?_; rw [h2]; rintro e w6 ⟨rfl, rfl⟩
      go_wp2_with fail
      refine wp_loop_rounds 1 ?_; rw [rounds_succ]
      go_wp2_with fail
      refine (zero_same _).mono ?_
      rintro e W6 ⟨rfl, hb⟩
      go_wp2_with fail
      go_ret
      exact ⟨ret_bool (by simp), below_then (below_new BT5.out _) hb⟩
  case pos =>
    obtain ⟨q0, i1, i2⟩ : E = 0 ∧ inB 1 40 yq = true ∧ inB (-10000) 9960 first = true := by
      unfold ofErr at hR
      by_cases h0 : E = 0
      · subst h0
        rw [if_neg (by simp)] at hR
        cases h1 : inB 1 40 yq with
        | true =>
          rw [h1, if_neg (by simp)] at hR
          cases h2 : inB (-10000) 9960 first with
          | true => exact ⟨rfl, rfl, rfl⟩
          | false => rw [h2, if_pos rfl] at hR; cases hR
        | false => rw [h1, if_pos rfl] at hR; cases hR
      · rw [if_pos h0] at hR; exact absurd hR h0
    clear hR
    subst q0
    have hy1 := inB_iff.1 i1; have hf1 := inB_iff.1 i2
    obtain ⟨yn, hyn⟩ : ∃ yn : Nat, yq = (yn : Int) := ⟨yq.toNat, by omega⟩
    subst hyn
    have hn1 : 1 ≤ yn := by omega
    have hn4 : yn ≤ 4 := by omega
    have I1 := Lib.hid i1; have I2 := Lib.hid i2
    obtain ⟨N, ok⟩ := moonOk_of HE.out.symm
    have hm := mths_in c ls
    have mo := fun W (hb : Below w.heap.size w W) (y : Int) (y1 : -20000 ≤ y) (y2 : y ≤ 20000) => ref_MoonMonths W s f sn sd mn md ln ld c a1 a2 n1 c1 n2 c2 ls vs N y ok y1 y2 (H.out.then_ hb)
    have cb := fun W (hb : Below w.heap.size w W) (y m : Int) (y1 : -18000 ≤ y) (y2 : y ≤ 18000) (m1 : 1 ≤ m) (m2 : m ≤ 20) => ref_MoonBegin W s f sn sd mn md ln ld c a1 a2 n1 c1 n2 c2 ls vs N y m ok y1 y2 m1 m2 (H.out.then_ hb)
    have of_ := fun W (hb : Below w.heap.size w W) => observed_Of_ok W s f sn sd mn md ln ld c a1 a2 n1 c1 n2 c2 ls vs N first yn hs HMI.out (H.out.then_ hb) HE.out.symm ok hn1 (by omega) hf1.1 hf1.2
    generalize begD f sn sd mn md ln ld c N ls vs = G at cb of_
    clear ok
    have ME := Lib.hid (fun W (hb : Below w.heap.size w W) => ref_MoonError W s f sn sd mn md ln ld c a1 a2 n1 c1 n2 c2 ls vs hs HMI.out (H.out.then_ hb))
    rw [← HE.out] at ME
    generalize mths c ls = mt at hm mo of_
    have MO := Lib.hid mo; have CB := Lib.hid cb; have HM := Lib.hid hm
    have OFC := Lib.hid of_
    clear mo cb of_ hm i1 i2 hy1 hyq yb1 yb2
    refine (OFC.out W2 BT.out).mono ?_
    intro e W3 hp
    obtain ⟨ts, tf, te, ta, tn, tc, ua, un, uc, rfl, htf, hb⟩ := of_form (mon_in HM.out first yn) hp
    have TF3 := Lib.hid htf
    have BT3 := Lib.hid (below_then BT.out hb); have AR3 := Lib.hid (AR2.out.then_ hb)
    clear hb htf hp x0 x1 x2 x3 x4 x5 x6 x7 x8 x9 x10 zl BT AR2 OFC HE
    have x0 : W3.cell? ⟨w.heap.size, 0, none⟩ = some (.string s) := (AR3.out).cell 0
    have x1 : W3.cell? ⟨w.heap.size, 1, none⟩ = some (.int .i64 f) := (AR3.out).cell 1
    have x2 : W3.cell? ⟨w.heap.size, 2, none⟩ = some (.int .i64 sn) := (AR3.out).cell 2
    have x3 : W3.cell? ⟨w.heap.size, 3, none⟩ = some (.int .i64 sd) := (AR3.out).cell 3
    have x4 : W3.cell? ⟨w.heap.size, 4, none⟩ = some (.int .i64 mn) := (AR3.out).cell 4
    have x5 : W3.cell? ⟨w.heap.size, 5, none⟩ = some (.int .i64 md) := (AR3.out).cell 5
    have x6 : W3.cell? ⟨w.heap.size, 6, none⟩ = some (.int .i64 ln) := (AR3.out).cell 6
    have x7 : W3.cell? ⟨w.heap.size, 7, none⟩ = some (.int .i64 ld) := (AR3.out).cell 7
    have x8 : W3.cell? ⟨w.heap.size, 8, none⟩ = some (.int .i64 c) := (AR3.out).cell 8
    have x9 : W3.cell? ⟨w.heap.size, 9, none⟩ = some (.slice a1 n1 c1) := (AR3.out).cell 9
    have x10 : W3.cell? ⟨w.heap.size, 10, none⟩ = some (.slice a2 n2 c2) := (AR3.out).cell 10
    have zl := AR3.out.lt
    go_wp2_with fail
    have bt4 := below_new BT3.out (.cells #[.string ts, .int .i64 tf, .slice ta tn tc, .slice ua un uc] 44)
    have at4 := At.new W3 (.cells #[.string ts, .int .i64 tf, .slice ta tn tc, .slice ua un uc] 44)
    have ar4 := AR3.out.alloc (.cells #[.string ts, .int .i64 tf, .slice ta tn tc, .slice ua un uc] 44)
    have d4 := below_new (Below.refl W3.heap.size W3) (.cells #[.string ts, .int .i64 tf, .slice ta tn tc, .slice ua un uc] 44)
    generalize World.alloc W3 _ = W4 at bt4 at4 ar4 d4 ⊢
    refine (ME.out W4 bt4).mono ?_
    rintro e W5 ⟨rfl, hb⟩
    have BT5 := Lib.hid (below_then bt4 hb); have AR5 := Lib.hid (ar4.then_ hb); have AT5 := Lib.hid (at4.then_ hb); have D5 := Lib.hid (below_then d4 hb)
    clear hb bt4 at4 ar4 d4 x0 x1 x2 x3 x4 x5 x6 x7 x8 x9 x10 zl ME BT3 AR3
    have x0 : W5.cell? ⟨w.heap.size, 0, none⟩ = some (.string s) := AR5.out.cell 0
    have zl := AR5.out.lt
    go_wp2_with fail
    refine (ref_In _ _ _ _).mono ?_; rw [I1.out]; rintro e w6 ⟨rfl, rfl⟩
    go_wp2_with fail
    refine (ref_In _ _ _ _).mono ?_; rw [I2.out]; rintro e w6 ⟨rfl, rfl⟩
    go_wp2_with fail
    have T0 := Lib.hid (show Tab (W5.alloc (.cells #[.string s, .int .i64 first, .slice none 0 0, .slice none 0 0] 44)) W5.heap.size s first (.slice none 0 0) (.slice none 0 0) (monS mt first 0) (refS mt G first 0) from
      ⟨At.new _ _, World.ownsRow_nil _ _ _ _, World.ownsRow_nil _ _ _ _, fun g e => by cases e⟩)
    have B0 := Lib.hid (below_new (Below.refl W5.heap.size W5) (.cells #[.string s, .int .i64 first, .slice none 0 0, .slice none 0 0] 44))
    clear x0
    have t0 : IntKind.i64.wrap (first + (yn : Int)) = first + (yn : Int) := IntWalk.i64_in _ (by omega)
    go_loopw [13] (fun y wr => ∃ (k : Nat) (p q : Value), k ≤ yn ∧ y = .int .i64 (first + (k : Int)) ∧ Tab wr W5.heap.size s first p q (monS mt first k) (refS mt G first k) ∧ Below W5.heap.size W5 wr) (fun y _ => yn - (intOf y - first).toNat)
    case atStart => exact ⟨0, _, _, by omega, by simp, T0.out, B0.out⟩
    case round =>
      clear T0 B0
      obtain ⟨k, p, q, hk, rfl, htab, hbel⟩ := hrel
      by_cases hlt : k < yn
      · obtain ⟨y, hyy⟩ : ∃ y, y = first + (k : Int) := ⟨_, rfl⟩
        rw [← hyy]
        have hn := HM.out y
        obtain ⟨n, hnn⟩ : ∃ n, n = mt y := ⟨_, rfl⟩
        rw [← hnn] at hn
        have HNN := Lib.hid hnn; have HYY := Lib.hid hyy
        have t1 : IntKind.i64.wrap (y + 1) = y + 1 := IntWalk.i64_in _ (by omega)
        have dlt : y < first + (yn : Int) := by omega
        have yb1 : -10000 ≤ y := by omega
        have yb2 : y ≤ 10000 := by omega
        have MOY := Lib.hid (fun W hb => MO.out W hb y (by omega) (by omega))
        rw [← hnn] at MOY
        obtain ⟨ms, hms⟩ : ∃ ms, ms = monS mt first k := ⟨_, rfl⟩
        have hl40 : ms.length ≤ 40 := by rw [hms, monS_len]; omega
        rw [← hms] at htab
        have HMS := Lib.hid hms
        obtain ⟨pa, pc, rfl⟩ := own_form' htab.row1
        have TB := Lib.hid htab; have HB := Lib.hid hbel
        have BW := Lib.hid (below_then BT5.out hbel)
        have arw := AR5.out.then_ hbel
        have x0 : wr.cell? ⟨w.heap.size, 0, none⟩ = some (.string s) := (arw).cell 0
        have x1 : wr.cell? ⟨w.heap.size, 1, none⟩ = some (.int .i64 f) := (arw).cell 1
        have x2 : wr.cell? ⟨w.heap.size, 2, none⟩ = some (.int .i64 sn) := (arw).cell 2
        have x3 : wr.cell? ⟨w.heap.size, 3, none⟩ = some (.int .i64 sd) := (arw).cell 3
        have x4 : wr.cell? ⟨w.heap.size, 4, none⟩ = some (.int .i64 mn) := (arw).cell 4
        have x5 : wr.cell? ⟨w.heap.size, 5, none⟩ = some (.int .i64 md) := (arw).cell 5
        have x6 : wr.cell? ⟨w.heap.size, 6, none⟩ = some (.int .i64 ln) := (arw).cell 6
        have x7 : wr.cell? ⟨w.heap.size, 7, none⟩ = some (.int .i64 ld) := (arw).cell 7
        have x8 : wr.cell? ⟨w.heap.size, 8, none⟩ = some (.int .i64 c) := (arw).cell 8
        have x9 : wr.cell? ⟨w.heap.size, 9, none⟩ = some (.slice a1 n1 c1) := (arw).cell 9
        have x10 : wr.cell? ⟨w.heap.size, 10, none⟩ = some (.slice a2 n2 c2) := (arw).cell 10
        clear hms hnn hyy htab hbel
        go_wp2_with fail
        refine (MOY.out _ BW.out).mono ?_
        rintro e W6 ⟨rfl, hb⟩
        have TB6 := Lib.hid (TB.out.then_ hb); have HB6 := Lib.hid (below_then HB.out hb)
        have R6 := Lib.hid TB6.out.row1
        have bs : W5.heap.size + 1 ≤ W6.heap.size := TB6.out.box.lt
        have hc2 : W6.cell? ⟨W5.heap.size, 2, none⟩ = some (.slice pa ms.length pc) := TB6.out.box.cell 2
        clear hb TB HB BW arw x0 x1 x2 x3 x4 x5 x6 x7 x8 x9 x10
        go_wp2_with (at_builtin; refine wpList_append_lies _ rfl _ _ 22 rfl (W5.heap.size + 1) 3 i0 (.int .i64 0) 1 8 Try.underlying22 hi hz0 hz1 hz2 rfl (by decide) _ _ _ rfl (R6.out.alloc _) ⟨W6.heap.size, 0, none⟩ 1 1 [.int .i64 n] rfl rfl (World.news_of_block (cs := #[.int .i64 n]) (t := 3) (fr := (0, 0)) (heap_alloc_new W6 _)) (by simp [Value.oneCell']) (by decide) (by unfold maxLen; omega) (by omega) (by first | omega | (simp; omega)) _ rfl ?_; intro g4 cap4 w4 hown' hgrow hlies hglt; have ⟨hcl, hfz, hbz⟩ := tab_slot1 TB6.out hgrow)
        have TB7 := Lib.hid (TB6.out.put1 hown' hgrow hlies)
        have HB7 := Lib.hid (below_put (Nat.le_refl _) TB6.out.box.lt (fun b e => (own_block TB6.out.row1 e).1) HB6.out hgrow 2 (.slice (some ⟨g4, 0, none⟩) (ms.length + 1) cap4))
        generalize World.setCell w4 _ _ = W7 at TB7 HB7 ⊢
        clear hown' hgrow hlies hglt hcl hfz hbz TB6 HB6 R6 hc2 bs
        go_loopw [15] (fun m wr => ∃ (j : Nat) (p q : Value), (j : Int) ≤ n ∧ m = .int .i64 ((j : Int) + 1) ∧ Tab wr W5.heap.size s first p q (ms ++ [n]) (preS mt G first k j) ∧ Below W5.heap.size W5 wr) (fun m _ => 20 - (intOf m).toNat)
        case atStart => exact ⟨0, _, _, by omega, by simp, by rw [preS_zero]; exact TB7.out, HB7.out⟩
        case round =>
          clear TB7 HB7
          obtain ⟨j, p, q, hj, rfl, htab, hbel⟩ := hrel
          by_cases hjn : (j : Int) < n
          · have dle : (j : Int) + 1 ≤ n := by omega
            have hlen := preS_len (g := G) (first := first) HM.out k j
            have HDS := Lib.hid (preS_succ (mt := mt) (g := G) (first := first) k j)
            have CBY := Lib.hid (fun W hb => CB.out W hb y ((j : Int) + 1) (by omega) (by omega) (by omega) (by omega))
            rw [← HYY.out] at HDS
            obtain ⟨v, hv⟩ : ∃ v, v = G y ((j : Int) + 1) := ⟨_, rfl⟩
            rw [← hv] at HDS CBY
            obtain ⟨ds, hds⟩ : ∃ ds, ds = preS mt G first k j := ⟨_, rfl⟩
            rw [← hds] at HDS htab hlen
            obtain ⟨qa, qc, rfl⟩ := own_form' htab.row2
            obtain ⟨nd, hnd⟩ : ∃ nd, nd = ds.length := ⟨_, rfl⟩
            have hn6 : nd ≤ 600 := by omega
            have HND := Lib.hid hnd
            have TB := Lib.hid (tab_drew htab); have HB := Lib.hid hbel.drew
            have BW := Lib.hid (below_then BT5.out hbel).drew
            have arw := (AR5.out.then_ hbel)
            have ard := arw.drew
            have e3 : wr.cell? ⟨W5.heap.size, 3, none⟩ = some (.slice qa nd qc) := by rw [hnd]; exact htab.box.cell 3
            have e3d : wr.drew.cell? ⟨W5.heap.size, 3, none⟩ = some (.slice qa nd qc) := by rw [hnd]; exact htab.box.drew.cell 3
            have bs : W5.heap.size + 1 ≤ wr.heap.size := htab.box.lt
            have x0 : wr.cell? ⟨w.heap.size, 0, none⟩ = some (.string s) := (arw).cell 0
            have x1 : wr.cell? ⟨w.heap.size, 1, none⟩ = some (.int .i64 f) := (arw).cell 1
            have x2 : wr.cell? ⟨w.heap.size, 2, none⟩ = some (.int .i64 sn) := (arw).cell 2
            have x3 : wr.cell? ⟨w.heap.size, 3, none⟩ = some (.int .i64 sd) := (arw).cell 3
            have x4 : wr.cell? ⟨w.heap.size, 4, none⟩ = some (.int .i64 mn) := (arw).cell 4
            have x5 : wr.cell? ⟨w.heap.size, 5, none⟩ = some (.int .i64 md) := (arw).cell 5
            have x6 : wr.cell? ⟨w.heap.size, 6, none⟩ = some (.int .i64 ln) := (arw).cell 6
            have x7 : wr.cell? ⟨w.heap.size, 7, none⟩ = some (.int .i64 ld) := (arw).cell 7
            have x8 : wr.cell? ⟨w.heap.size, 8, none⟩ = some (.int .i64 c) := (arw).cell 8
            have x9 : wr.cell? ⟨w.heap.size, 9, none⟩ = some (.slice a1 n1 c1) := (arw).cell 9
            have x10 : wr.cell? ⟨w.heap.size, 10, none⟩ = some (.slice a2 n2 c2) := (arw).cell 10
            have xd0 : wr.drew.cell? ⟨w.heap.size, 0, none⟩ = some (.string s) := (ard).cell 0
            have xd1 : wr.drew.cell? ⟨w.heap.size, 1, none⟩ = some (.int .i64 f) := (ard).cell 1
            have xd2 : wr.drew.cell? ⟨w.heap.size, 2, none⟩ = some (.int .i64 sn) := (ard).cell 2
            have xd3 : wr.drew.cell? ⟨w.heap.size, 3, none⟩ = some (.int .i64 sd) := (ard).cell 3
            have xd4 : wr.drew.cell? ⟨w.heap.size, 4, none⟩ = some (.int .i64 mn) := (ard).cell 4
            have xd5 : wr.drew.cell? ⟨w.heap.size, 5, none⟩ = some (.int .i64 md) := (ard).cell 5
            have xd6 : wr.drew.cell? ⟨w.heap.size, 6, none⟩ = some (.int .i64 ln) := (ard).cell 6
            have xd7 : wr.drew.cell? ⟨w.heap.size, 7, none⟩ = some (.int .i64 ld) := (ard).cell 7
            have xd8 : wr.drew.cell? ⟨w.heap.size, 8, none⟩ = some (.int .i64 c) := (ard).cell 8
            have xd9 : wr.drew.cell? ⟨w.heap.size, 9, none⟩ = some (.slice a1 n1 c1) := (ard).cell 9
            have xd10 : wr.drew.cell? ⟨w.heap.size, 10, none⟩ = some (.slice a2 n2 c2) := (ard).cell 10
            clear hds hv hnd htab hbel hlen arw ard
            go_upto_region 22 with fail
            go_region_law
              (first
                | (rw [if_pos (by rfl)]; go_simp; go_at_call 20; refine (CBY.out _ BW.out).mono ?_; rintro e w2 ⟨rfl, hb⟩; have tb2 := Lib.hid (TB.out.then_ hb); have hb2 := Lib.hid (below_then HB.out hb); have r2 := Lib.hid (show w2.ownsRow (W5.heap.size + 1) 3 1 (.slice qa nd qc) nd (iv ds) from by rw [HND.out]; exact tb2.out.row2); have x3 : w2.cell? ⟨W5.heap.size, 3, none⟩ = some (.slice qa nd qc) := (tb2.out.box.cell 3).trans (by rw [HND.out]; rfl); have x3a : (w2.alloc (.cells #[.int .i64 v] 3)).cell? ⟨W5.heap.size, 3, none⟩ = some (.slice qa nd qc) := ((tb2.out.box.alloc (.cells #[.int .i64 v] 3)).cell 3).trans (by rw [HND.out]; rfl); have bs2 : W5.heap.size + 1 ≤ w2.heap.size := tb2.out.box.lt)
                | (refine step_append_lies _ (by rfl) _ _ _ (by rfl) (W5.heap.size + 1) 3 i0 _ 1 8 Try.underlying22 hi hz0 hz1 hz2 rfl (by omega) (.slice qa nd qc) nd (iv ds) (by rfl) (r2.out.alloc _) ⟨w2.heap.size, 0, none⟩ 1 1 [.int .i64 v] (by rfl) (by rfl) (World.news_of_block (cs := #[.int .i64 v]) (t := 3) (fr := (0, 0)) (heap_alloc_new w2 _)) (by simp [Value.oneCell']) (by omega) (by unfold maxLen; omega) (by omega) (by simp; omega) _ rfl ?_; intro g4 cap4 w4 hown' hgrow hlies hglt; have hgx : (w2.alloc (.cells #[.int .i64 v] 3)).grownBy w4 (Value.slice qa ds.length qc).ownBlock := (by rw [← HND.out]; exact hgrow); have ⟨y4, y5, y6⟩ := tab_slot2 tb2.out hgx))
            all_goals
              have hnd := HND.out
              subst hnd
              have TB9 := Lib.hid (tb2.out.put2 (x := v) hown' hgx hlies)
              have HB9 := Lib.hid (below_put (Nat.le_refl _) tb2.out.box.lt (fun b e => (own_block tb2.out.row2 e).1) hb2.out hgx 3 (.slice (some ⟨g4, 0, none⟩) (ds.length + 1) cap4))
              generalize World.setCell w4 _ _ = W9 at TB9 HB9 ⊢
              go_wp2_with fail
              go_roundw
              case rel => exact ⟨j + 1, _, _, by omega, by go_num, by rw [HDS.out]; exact TB9.out, HB9.out⟩
              case measure => simp [intOf]; omega
          · -- the year's end
            have hje : (j : Int) = n := by omega
            have HE := Lib.hid (show preS mt G first k j = refS mt G first (k + 1) from by
              rw [← preS_year k, ← HYY.out, ← HNN.out, ← hje]; rfl)
            have HM1 := Lib.hid (show ms ++ [n] = monS mt first (k + 1) from by rw [monS_succ, ← HMS.out, ← HYY.out, ← HNN.out])
            have HY1 := Lib.hid (show y + 1 = first + ((k + 1 : Nat) : Int) from by rw [HYY.out]; omega)
            have dle : n < (j : Int) + 1 := by omega
            have TBE := Lib.hid htab; have HBE := Lib.hid hbel
            clear htab hbel hje
            go_wp2_with fail
            go_roundw
            case rel => exact ⟨k + 1, _, _, by omega, congrArg (Value.int .i64) HY1.out, by rw [← HE.out, ← HM1.out]; exact TBE.out, HBE.out⟩
            case measure => have h9 := HYY.out; simp [intOf]; omega
      · obtain rfl : k = yn := by omega
        have dlt : ¬ first + (k : Int) < first + (k : Int) := by omega
        have CBY := Lib.hid (fun W hb => CB.out W hb (first + (k : Int)) 1 (by omega) (by omega) (by omega) (by omega))
        have hlen := refS_len (g := G) (first := first) HM.out k
        obtain ⟨v, hv⟩ : ∃ v, v = G (first + (k : Int)) 1 := ⟨_, rfl⟩
        rw [← hv] at CBY
        obtain ⟨ds, hds⟩ : ∃ ds, ds = refS mt G first k := ⟨_, rfl⟩
        have HFU := Lib.hid (show fullS mt G first k = ds ++ [v] from by rw [hds, hv]; rfl)
        rw [← hds] at htab hlen
        obtain ⟨qa, qc, rfl⟩ := own_form' htab.row2
        obtain ⟨nd, hnd⟩ : ∃ nd, nd = ds.length := ⟨_, rfl⟩
        have hn6 : nd ≤ 600 := by omega
        have HND := Lib.hid hnd
        have TB := Lib.hid (tab_drew htab); have HB := Lib.hid hbel.drew
        have BW := Lib.hid (below_then BT5.out hbel).drew
        have arw := (AR5.out.then_ hbel)
        have ard := arw.drew
        have e3 : wr.cell? ⟨W5.heap.size, 3, none⟩ = some (.slice qa nd qc) := by rw [hnd]; exact htab.box.cell 3
        have e3d : wr.drew.cell? ⟨W5.heap.size, 3, none⟩ = some (.slice qa nd qc) := by rw [hnd]; exact htab.box.drew.cell 3
        have bs : W5.heap.size + 1 ≤ wr.heap.size := htab.box.lt
        have x0 : wr.cell? ⟨w.heap.size, 0, none⟩ = some (.string s) := (arw).cell 0
        have x1 : wr.cell? ⟨w.heap.size, 1, none⟩ = some (.int .i64 f) := (arw).cell 1
        have x2 : wr.cell? ⟨w.heap.size, 2, none⟩ = some (.int .i64 sn) := (arw).cell 2
        have x3 : wr.cell? ⟨w.heap.size, 3, none⟩ = some (.int .i64 sd) := (arw).cell 3
        have x4 : wr.cell? ⟨w.heap.size, 4, none⟩ = some (.int .i64 mn) := (arw).cell 4
        have x5 : wr.cell? ⟨w.heap.size, 5, none⟩ = some (.int .i64 md) := (arw).cell 5
        have x6 : wr.cell? ⟨w.heap.size, 6, none⟩ = some (.int .i64 ln) := (arw).cell 6
        have x7 : wr.cell? ⟨w.heap.size, 7, none⟩ = some (.int .i64 ld) := (arw).cell 7
        have x8 : wr.cell? ⟨w.heap.size, 8, none⟩ = some (.int .i64 c) := (arw).cell 8
        have x9 : wr.cell? ⟨w.heap.size, 9, none⟩ = some (.slice a1 n1 c1) := (arw).cell 9
        have x10 : wr.cell? ⟨w.heap.size, 10, none⟩ = some (.slice a2 n2 c2) := (arw).cell 10
        have xd0 : wr.drew.cell? ⟨w.heap.size, 0, none⟩ = some (.string s) := (ard).cell 0
        have xd1 : wr.drew.cell? ⟨w.heap.size, 1, none⟩ = some (.int .i64 f) := (ard).cell 1
        have xd2 : wr.drew.cell? ⟨w.heap.size, 2, none⟩ = some (.int .i64 sn) := (ard).cell 2
        have xd3 : wr.drew.cell? ⟨w.heap.size, 3, none⟩ = some (.int .i64 sd) := (ard).cell 3
        have xd4 : wr.drew.cell? ⟨w.heap.size, 4, none⟩ = some (.int .i64 mn) := (ard).cell 4
        have xd5 : wr.drew.cell? ⟨w.heap.size, 5, none⟩ = some (.int .i64 md) := (ard).cell 5
        have xd6 : wr.drew.cell? ⟨w.heap.size, 6, none⟩ = some (.int .i64 ln) := (ard).cell 6
        have xd7 : wr.drew.cell? ⟨w.heap.size, 7, none⟩ = some (.int .i64 ld) := (ard).cell 7
        have xd8 : wr.drew.cell? ⟨w.heap.size, 8, none⟩ = some (.int .i64 c) := (ard).cell 8
        have xd9 : wr.drew.cell? ⟨w.heap.size, 9, none⟩ = some (.slice a1 n1 c1) := (ard).cell 9
        have xd10 : wr.drew.cell? ⟨w.heap.size, 10, none⟩ = some (.slice a2 n2 c2) := (ard).cell 10
        clear hds hv hnd htab hbel hlen arw ard
        go_upto_region 24 with fail
        go_cut [] from 115 (fun wx => ∃ p q, Tab wx W5.heap.size s first p q (monS mt first k) (ds ++ [v]) ∧ Below W5.heap.size W5 wx)
        case first =>
          go_region_law
            (first
              | (rw [if_pos (by rfl)]; go_simp; go_at_call 20; refine (CBY.out _ BW.out).mono ?_; rintro e w2 ⟨rfl, hb⟩; have tb2 := Lib.hid (TB.out.then_ hb); have hb2 := Lib.hid (below_then HB.out hb); have r2 := Lib.hid (show w2.ownsRow (W5.heap.size + 1) 3 1 (.slice qa nd qc) nd (iv ds) from by rw [HND.out]; exact tb2.out.row2); have x3 : w2.cell? ⟨W5.heap.size, 3, none⟩ = some (.slice qa nd qc) := (tb2.out.box.cell 3).trans (by rw [HND.out]; rfl); have x3a : (w2.alloc (.cells #[.int .i64 v] 3)).cell? ⟨W5.heap.size, 3, none⟩ = some (.slice qa nd qc) := ((tb2.out.box.alloc (.cells #[.int .i64 v] 3)).cell 3).trans (by rw [HND.out]; rfl); have bs2 : W5.heap.size + 1 ≤ w2.heap.size := tb2.out.box.lt)
              | (refine step_append_lies _ (by rfl) _ _ _ (by rfl) (W5.heap.size + 1) 3 i0 _ 1 8 Try.underlying22 hi hz0 hz1 hz2 rfl (by omega) (.slice qa nd qc) nd (iv ds) (by rfl) (r2.out.alloc _) ⟨w2.heap.size, 0, none⟩ 1 1 [.int .i64 v] (by rfl) (by rfl) (World.news_of_block (cs := #[.int .i64 v]) (t := 3) (fr := (0, 0)) (heap_alloc_new w2 _)) (by simp [Value.oneCell']) (by omega) (by unfold maxLen; omega) (by omega) (by simp; omega) _ rfl ?_; intro g4 cap4 w4 hown' hgrow hlies hglt; have hgx : (w2.alloc (.cells #[.int .i64 v] 3)).grownBy w4 (Value.slice qa ds.length qc).ownBlock := (by rw [← HND.out]; exact hgrow); have ⟨y4, y5, y6⟩ := tab_slot2 tb2.out hgx))
          all_goals
            have hnd := HND.out
            subst hnd
            have TB9 := Lib.hid (tb2.out.put2 (x := v) hown' hgx hlies)
            have HB9 := Lib.hid (below_put (Nat.le_refl _) tb2.out.box.lt (fun b e => (own_block tb2.out.row2 e).1) hb2.out hgx 3 (.slice (some ⟨g4, 0, none⟩) (ds.length + 1) cap4))
            go_wp2_with fail
            go_meet
            case rel => exact ⟨_, _, TB9.out, HB9.out⟩
        case rest =>
        obtain ⟨p1, q1, htab, hbel⟩ := hcut
        obtain ⟨W8, rfl⟩ : ∃ W8, W8 = wc := ⟨_, rfl⟩
        clear TB HB BW e3 e3d bs x0 x1 x2 x3 x4 x5 x6 x7 x8 x9 x10 xd0 xd1 xd2 xd3 xd4 xd5 xd6 xd7 xd8 xd9 xd10 CBY
        rw [← HFU.out] at htab
        obtain ⟨L, hL⟩ : ∃ L, L = fullS mt G first k := ⟨_, rfl⟩
        have hL0 : 0 < L.length := by rw [hL, HFU.out]; simp
        have htf := TF3.out
        rw [← hL] at htab htf
        obtain ⟨M, hM⟩ : ∃ M, M = monS mt first k := ⟨_, rfl⟩
        have hMI := mon_in HM.out first k
        rw [← hM] at htab htf hMI
        clear hL hM HFU TF3 HM MO CB
        obtain ⟨g, gc, rfl, hgl, hcs⟩ := iv_cells htab.row2 hL0
        obtain ⟨pa, pc, rfl, hpi⟩ := iv_ints htab.row1 hMI
        have HPI := Lib.hid hpi
        have HQI := Lib.hid (fun hI => iv_ints htab.row2 hI)
        have BW := Lib.hid (below_then BT5.out hbel); have DW := Lib.hid (below_then D5.out hbel); have ATW := Lib.hid (AT5.out.then_ hbel)
        obtain ⟨nq, hnq⟩ : ∃ nq, nq = L.length := ⟨_, rfl⟩
        obtain ⟨np, hnp⟩ : ∃ np, np = M.length := ⟨_, rfl⟩
        have hq6 : nq ≤ 9223372036854775807 := by
          rcases htf with ⟨_, _, _, _, _, hi2⟩ | ⟨_, _, _, _, _, _, _, _⟩
          · rw [hnq, hi2.1]; exact hi2.2.1
          · have h1 := htab.row2.2
            rcases h1 with ⟨h2, _⟩ | ⟨g', c', cur, h2, _, _, h3, h4, _⟩
            · cases h2
            · cases h2; unfold maxLen at h4; omega
        have c0 : W8.cell? ⟨W5.heap.size, 0, none⟩ = some (.string s) := htab.box.cell 0
        have c1' : W8.cell? ⟨W5.heap.size, 1, none⟩ = some (.int .i64 first) := htab.box.cell 1
        have c2' : W8.cell? ⟨W5.heap.size, 2, none⟩ = some (.slice pa np pc) := by rw [hnp]; exact htab.box.cell 2
        have c3 : W8.cell? ⟨W5.heap.size, 3, none⟩ = some (.slice (some ⟨g, 0, none⟩) nq gc) := by rw [hnq]; exact htab.box.cell 3
        have cl := htab.box.lt
        rw [← hnq] at hcs
        have HCS := Lib.hid hcs; have HTF := Lib.hid htf; have HNQ := Lib.hid hnq; have HNP := Lib.hid hnp
        clear hcs htf hnq hnp hpi htab hL0 hMI
        go_wp2_with fail
        go_loopw [11, 128] (fun fv i wr => ∃ j : Nat, j ≤ nq ∧ i = .int .i64 (j : Int) ∧ fv = .int .i64 (if (L.take j).all dayB = true then 0 else 3) ∧ W8 = wr) (fun _ i _ => nq - (intOf i).toNat)
        case atStart => exact ⟨0, by omega, rfl, by simp, rfl⟩
        case round =>
          obtain ⟨j, hj, rfl, rfl, rfl⟩ := hrel
          obtain ⟨fv, hfv⟩ : ∃ fv : Int, fv = if (L.take j).all dayB = true then 0 else 3 := ⟨_, rfl⟩
          rw [← hfv]
          have HFV := Lib.hid hfv; clear hfv
          by_cases hlt : j < nq
          · have hx := HCS.out j hlt
            have HNX := Lib.hid (show (L.take (j + 1)).all dayB = ((L.take j).all dayB && dayB (L.getD j 0)) from by
              have hj' : j < L.length := by rw [← HNQ.out]; exact hlt
              rw [List.take_add_one, List.getElem?_eq_getElem hj', List.all_append, List.getD_eq_getElem?_getD, List.getElem?_eq_getElem hj']
              simp)
            obtain ⟨x, hxx⟩ : ∃ x, x = L.getD j 0 := ⟨_, rfl⟩
            rw [← hxx] at hx HNX
            clear hxx
            go_wp2_with fail
            refine (ref_Day x _).mono ?_
            cases hd : inB (-4000000) 4000000 x with
            | true =>
              have HN2 := Lib.hid (show (if (L.take (j + 1)).all dayB = true then (0 : Int) else 3) = fv from by
                rw [HNX.out, show dayB x = true from hd, Bool.and_true, ← HFV.out])
              rintro e w6 ⟨rfl, rfl⟩
              go_wp2_with fail
              go_roundw
              case rel => exact ⟨j + 1, by omega, by go_num, congrArg (Value.int .i64) HN2.out.symm, trivial⟩
              case measure => simp [intOf]; omega
            | false =>
              have HN2 := Lib.hid (show (if (L.take (j + 1)).all dayB = true then (0 : Int) else 3) = 3 from by
                rw [HNX.out, show dayB x = false from hd, Bool.and_false]; rfl)
              rintro e w6 ⟨rfl, rfl⟩
              go_wp2_with fail
              go_roundw
              case rel => exact ⟨j + 1, by omega, by go_num, congrArg (Value.int .i64) HN2.out.symm, trivial⟩
              case measure => simp [intOf]; omega
          · obtain rfl : j = nq := by omega
            have hfin : fv = if L.all dayB = true then 0 else 3 := by
              rw [HFV.out, List.take_of_length_le (by rw [← HNQ.out]; exact Nat.le_refl _)]
            clear HFV
            have tl := ATW.out.lt
            rcases HTF.out with ⟨hall, h1, h2, h3, hia, hib⟩ | ⟨hall, h1, h2, h3, h4, h5, h6, h7⟩
            · rw [hall, if_pos rfl] at hfin
              subst hfin h1 h2 h3
              have IA := Lib.hid (hia.far DW.out (Below.refl _ _))
              have IB := Lib.hid (hib.far DW.out (Below.refl _ _))
              have HW2 := Lib.hid (HQI.out (fun x hx => dayB_in (List.all_eq_true.1 hall x hx)))
              have a0 : W8.cell? ⟨W3.heap.size, 0, none⟩ = some (.string ts) := ATW.out.cell 0
              have a1' : W8.cell? ⟨W3.heap.size, 1, none⟩ = some (.int .i64 tf) := ATW.out.cell 1
              have a2' : W8.cell? ⟨W3.heap.size, 2, none⟩ = some (.slice ta tn tc) := ATW.out.cell 2
              have a3' : W8.cell? ⟨W3.heap.size, 3, none⟩ = some (.slice ua un uc) := ATW.out.cell 3
              clear hall hia hib
              have hp : Ints W8 W8.heap.size pa np M := by rw [HNP.out]; exact HPI.out
              have hw : Ints W8 W8.heap.size (some ⟨g, 0, none⟩) j L := by
                obtain ⟨a, c', he, hi'⟩ := HW2.out
                cases he
                rw [HNQ.out]; exact hi'
              have HPP := Lib.hid hp; have HWW := Lib.hid hw
              clear hp hw
              go_wp2_with fail
              refine (ref_SameTable W8 ts tf ta ua pa (some ⟨g, 0, none⟩) tn un tc uc np j pc gc M L IA.out IB.out HPP.out HWW.out).mono ?_
              rintro e W9 ⟨rfl, hb⟩
              go_wp2_with fail
              go_ret
              exact ⟨ret_bool (by simp), below_then BW.out hb⟩
            · rw [hall, if_neg (by simp)] at hfin
              subst hfin h1 h2 h3 h4 h5 h6 h7
              have a0 : W8.cell? ⟨W3.heap.size, 0, none⟩ = some (.string ⟨#[]⟩) := ATW.out.cell 0
              have a1' : W8.cell? ⟨W3.heap.size, 1, none⟩ = some (.int .i64 0) := ATW.out.cell 1
              have a2' : W8.cell? ⟨W3.heap.size, 2, none⟩ = some (.slice none 0 tc) := ATW.out.cell 2
              have a3' : W8.cell? ⟨W3.heap.size, 3, none⟩ = some (.slice none 0 uc) := ATW.out.cell 3
              clear hall HTF
              go_wp2_with fail
              refine (ref_SameTable W8 ⟨#[]⟩ 0 none none none none 0 0 tc uc 0 0 0 0 [] [] ⟨rfl, by omega, by simp, fun h => absurd h (by omega)⟩ ⟨rfl, by omega, by simp, fun h => absurd h (by omega)⟩ ⟨rfl, by omega, by simp, fun h => absurd h (by omega)⟩ ⟨rfl, by omega, by simp, fun h => absurd h (by omega)⟩).mono ?_
              rintro e W9 ⟨rfl, hb⟩
              go_wp2_with fail
              go_ret
              exact ⟨ret_bool (by simp), below_then BW.out hb⟩
theorem walk {H : Type} {enc : TypeId × Value → H} {v0 v1 v2 : Value} {d0 d1 d2 : DataW H} {p0 p1 p2 : List MemPlace} {base : Nat} (W : World)
    (o0 : Value.okWide Try.prog W .any base 42 v0) (h0 : DataW.Trod enc Try.prog W 0 (fun _ => true) true 42 v0 d0 p0)
    (o1 : Value.okWide Try.prog W .any base 3 v1) (h1 : DataW.Trod enc Try.prog W 0 (fun _ => true) true 3 v1 d1 p1)
    (o2 : Value.okWide Try.prog W .any base 3 v2) (h2 : DataW.Trod enc Try.prog W 0 (fun _ => true) true 3 v2 d2 p2) :
    Calls Try.prog 4 #[v0, v1, v2] W fun e w' => e = .returned (.bool true) ∧ Below W.heap.size W w' := by
  obtain ⟨s, f, sn, sd, mn, md, ln, ld, c, a1, a2, n1, c1, n2, c2, ls, vs, rfl, hs, hf, hI, hc, k1, k2, h⟩ := open_MoonRule o0 h0
  obtain ⟨y, rfl, rfl, rfl, wy⟩ := open_int Try.underlying3 o1 h1
  obtain ⟨m, rfl, rfl, rfl, wm⟩ := open_int Try.underlying3 o2 h2
  exact core W s f sn sd mn md ln ld c a1 a2 n1 c1 n2 c2 ls vs y m hs hI (wf_I64 wy) (wf_I64 wm) h
end Go.Proofs.Ytjjmbnflhldoeaa.observedOfsLaw
