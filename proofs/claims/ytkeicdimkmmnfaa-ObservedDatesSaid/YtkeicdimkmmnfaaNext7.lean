/- Contract of cycle.Days. -/
import Derived.Test.YtkeicdimkmmnfaaNext6
namespace Go.Proofs.Ytkeicdimkmmnfaa
set_option linter.unusedVariables false
set_option maxRecDepth 100000
open Go.RowKit

theorem own_then {w w' : World} {base : Nat} {e : TypeId} {size : Nat} {v : Value} {n : Nat} {xs : List Value} (h : w.ownsRow base e size v n xs) (hb : Below w.heap.size w w') : w'.ownsRow base e size v n xs := by
  refine ⟨h.1, ?_⟩
  rcases h.2 with h0 | ⟨g, cap, cur, rfl, hg, hcur, r⟩
  · exact Or.inl h0
  · have hat : At w g (.cells cur e) := hcur
    exact Or.inr ⟨g, cap, cur, rfl, hg, hat.then_ hb, r⟩
/-- A list of days, each the first one of F from the day behind the one before it. -/
def Chain (F : Int → Prop) : Int → List Int → Prop
  | _, [] => True
  | d, x :: l => d ≤ x ∧ x ≤ 4000000 ∧ F x ∧ (∀ d', d ≤ d' → d' < x → ¬ F d') ∧ Chain F (x + 1) l
/-- The day behind a list. -/
def endOf : Int → List Int → Int
  | d, [] => d
  | _, x :: l => endOf (x + 1) l
theorem endOf_snoc : ∀ (l : List Int) (d x : Int), endOf d (l ++ [x]) = x + 1
  | [], d, x => rfl
  | y :: l, d, x => endOf_snoc l (y + 1) x
theorem chain_snoc {F : Int → Prop} : ∀ (l : List Int) (d x : Int), Chain F d l → endOf d l ≤ x → x ≤ 4000000 → F x → (∀ d', endOf d l ≤ d' → d' < x → ¬ F d') → Chain F d (l ++ [x])
  | [], d, x, _, h1, h2, h3, h4 => ⟨h1, h2, h3, h4, trivial⟩
  | y :: l, d, x, hc, h1, h2, h3, h4 => ⟨hc.1, hc.2.1, hc.2.2.1, hc.2.2.2.1, chain_snoc l (y + 1) x hc.2.2.2.2 h1 h2 h3 h4⟩
theorem chain_in {F : Int → Prop} : ∀ (l : List Int) (d : Int), Chain F d l → ∀ x ∈ l, d ≤ x ∧ x ≤ 4000000
  | [], d, _, x, hx => by simp at hx
  | y :: l, d, hc, x, hx => by
    rcases List.mem_cons.1 hx with rfl | hx
    · exact ⟨hc.1, hc.2.1⟩
    · have := chain_in l (y + 1) hc.2.2.2.2 x hx
      have := hc.1
      omega
theorem chain_end {F : Int → Prop} : ∀ (l : List Int) (d : Int), Chain F d l → d ≤ 4000001 → d ≤ endOf d l ∧ endOf d l ≤ 4000001
  | [], d, _, h => ⟨by simp [endOf], h⟩
  | y :: l, d, hc, h => by
    have := chain_end l (y + 1) hc.2.2.2.2 (by have := hc.2.1; omega)
    have := hc.1
    simp only [endOf]
    omega
theorem chain_at {F : Int → Prop} : ∀ (k : Nat) (l : List Int) (d x : Int), Chain F d l → l[k]? = some x → endOf d (l.take k) ≤ x ∧ x ≤ 4000000 ∧ F x ∧ (∀ d', endOf d (l.take k) ≤ d' → d' < x → ¬ F d') ∧ endOf d (l.take (k + 1)) = x + 1
  | 0, y :: l, d, x, hc, hx => by
    simp at hx; subst hx
    exact ⟨hc.1, hc.2.1, hc.2.2.1, hc.2.2.2.1, by simp [endOf]⟩
  | k + 1, y :: l, d, x, hc, hx => chain_at k l (y + 1) x hc.2.2.2.2 (by simpa using hx)
/-- 1 for true. -/
def boolNat : Value → Nat
  | .bool true => 1
  | _ => 0
/-- What Days leaves. -/
def DaysOut (w : World) (F : Int → Prop) (d n : Int) (e : Ending) (w' : World) : Prop :=
  ∃ (L : List Int) (a : Option Addr) (k c : Nat), e = .returned (.tuple #[.slice a k c, .int .i64 0]) ∧ Ints w' w'.heap.size a k L ∧ Chain F d L ∧ (k : Int) ≤ n ∧ ((k : Int) = n ∨ ∀ d', endOf d L ≤ d' → d' ≤ 4000000 → ¬ F d') ∧ Below w.heap.size w w'
theorem cycle_Days_err (w : World) (a1 a2 : Option Addr) (n1 c1 n2 c2 : Nat) (xs ys : List Int) (d : Int) (a3 : Option Addr) (n3 c3 : Nat) (zs : List Int) (n : Int) (q : argErr xs ys zs d ≠ 0) (h1 : Ints w w.heap.size a1 n1 xs) (h2 : Ints w w.heap.size a2 n2 ys) (h3 : Ints w w.heap.size a3 n3 zs) :
    Calls Try.prog 15 #[.agg #[.slice a1 n1 c1, .slice a2 n2 c2], .int .i64 d, .slice a3 n3 c3, .int .i64 n] w fun e w' => e = .returned (.tuple #[.slice none 0 0, .int .i64 (argErr xs ys zs d)]) ∧ Below w.heap.size w w' := by
  have H1 := Lib.hid h1; have H2 := Lib.hid h2; have H3 := Lib.hid h3; clear h1 h2 h3
  obtain ⟨E, hE⟩ : ∃ E, E = argErr xs ys zs d := ⟨_, rfl⟩
  rw [← hE] at q ⊢
  have HE := Lib.hid hE; clear hE
  have q' : (E != 0) = true := by simpa using q
  clear q
  go_enter Try.func15, Try.ntmps15
  go_wp2_with fail
  refine (cycle_check _ _ _ _ _ _ _ xs ys d _ _ _ zs ((H1.out.below (below_new (Below.refl _ _) _) (Nat.le_refl _)).more (by simp)) ((H2.out.below (below_new (Below.refl _ _) _) (Nat.le_refl _)).more (by simp)) ((H3.out.below (below_new (Below.refl _ _) _) (Nat.le_refl _)).more (by simp))).mono ?_; rw [← HE.out]; rintro e w1 ⟨rfl, hb⟩
  go_wp2_with fail
  go_ret2
  exact ⟨rfl, by (repeat' (first | exact Below.refl _ _ | assumption | refine Below.drew ?_ | refine below_drewN ?_ _ | refine below_new ?_ _ | refine below_set ?_ ?_ _ | refine below_then ?_ (by assumption) | refine below_drawn ?_ (by assumption) | exact Nat.le_refl _ | omega | (simp; done) | (simp; omega)))⟩
theorem cycle_Days_arg (w : World) (a1 a2 : Option Addr) (n1 c1 n2 c2 : Nat) (xs ys : List Int) (d : Int) (a3 : Option Addr) (n3 c3 : Nat) (zs : List Int) (n : Int) (q : argErr xs ys zs d = 0) (hn : ¬ (0 ≤ n ∧ n ≤ 200)) (h1 : Ints w w.heap.size a1 n1 xs) (h2 : Ints w w.heap.size a2 n2 ys) (h3 : Ints w w.heap.size a3 n3 zs) :
    Calls Try.prog 15 #[.agg #[.slice a1 n1 c1, .slice a2 n2 c2], .int .i64 d, .slice a3 n3 c3, .int .i64 n] w fun e w' => e = .returned (.tuple #[.slice none 0 0, .int .i64 1]) ∧ Below w.heap.size w w' := by
  have H1 := Lib.hid h1; have H2 := Lib.hid h2; have H3 := Lib.hid h3; have HE := Lib.hid q; clear h1 h2 h3 q
  have hcs : n < 0 ∨ (0 ≤ n ∧ 200 < n) := by omega
  clear hn
  rcases hcs with q1 | ⟨q1, q2⟩
  all_goals
    go_enter Try.func15, Try.ntmps15
    go_wp2_with fail
    refine (cycle_check _ _ _ _ _ _ _ xs ys d _ _ _ zs ((H1.out.below (below_new (Below.refl _ _) _) (Nat.le_refl _)).more (by simp)) ((H2.out.below (below_new (Below.refl _ _) _) (Nat.le_refl _)).more (by simp)) ((H3.out.below (below_new (Below.refl _ _) _) (Nat.le_refl _)).more (by simp))).mono ?_; rw [HE.out]; rintro e w1 ⟨rfl, hb⟩
    go_wp2_with fail
    go_ret2
    exact ⟨rfl, by (repeat' (first | exact Below.refl _ _ | assumption | refine Below.drew ?_ | refine below_drewN ?_ _ | refine below_new ?_ _ | refine below_set ?_ ?_ _ | refine below_then ?_ (by assumption) | refine below_drawn ?_ (by assumption) | exact Nat.le_refl _ | omega | (simp; done) | (simp; omega)))⟩
set_option maxHeartbeats 2000000 in
theorem cycle_Days_ok (w : World) (a1 a2 : Option Addr) (n1 c1 n2 c2 : Nat) (xs ys : List Int) (d : Int) (a3 : Option Addr) (n3 c3 : Nat) (zs : List Int) (n : Int) (q : argErr xs ys zs d = 0) (hn1 : 0 ≤ n) (hn2 : n ≤ 200) (h1 : Ints w w.heap.size a1 n1 xs) (h2 : Ints w w.heap.size a2 n2 ys) (h3 : Ints w w.heap.size a3 n3 zs) :
    Calls Try.prog 15 #[.agg #[.slice a1 n1 c1, .slice a2 n2 c2], .int .i64 d, .slice a3 n3 c3, .int .i64 n] w (DaysOut w (Fits xs ys zs n1) d n) := by
  obtain ⟨i0, hi, hz0, hz1, hz2⟩ := info_parts Try.infoInt'
  obtain ⟨q1, q2, q3, q4⟩ := argErr_zero q
  have ok := setOk_of q1
  have hd : -4000000 ≤ d ∧ d ≤ 4000000 := by
    rcases inB_cases (-4000000) 4000000 d with ⟨_, h⟩ | ⟨h, _⟩
    · exact h
    · rw [h] at q2; cases q2
  have e2 : n2 = n1 := by have := ok.len; have := h1.1; have := h2.1; omega
  have e3 : n3 = n1 := by have := h1.1; have := h3.1; omega
  subst e2 e3
  obtain ⟨dd1, dd2⟩ := hd
  have H1 := Lib.hid h1; have H2 := Lib.hid h2; have H3 := Lib.hid h3; have HE := Lib.hid q; have OK := Lib.hid ok; have Q3 := Lib.hid q3; have Q4 := Lib.hid q4
  clear h1 h2 h3 q q1 q2 q3 q4 ok
  go_enter Try.func15, Try.ntmps15
  go_wp2_with fail
  refine (cycle_check _ _ _ _ _ _ _ xs ys d _ _ _ zs ((H1.out.below (below_new (Below.refl _ _) _) (Nat.le_refl _)).more (by simp)) ((H2.out.below (below_new (Below.refl _ _) _) (Nat.le_refl _)).more (by simp)) ((H3.out.below (below_new (Below.refl _ _) _) (Nat.le_refl _)).more (by simp))).mono ?_; rw [HE.out]; rintro e w1 ⟨rfl, hb⟩
  have a0 := (At.new w (.cells #[.slice a1 n3 c1, .slice a2 n3 c2] 24)).then_ hb
  have b0 : Below w.heap.size w w1 := by (repeat' (first | exact Below.refl _ _ | assumption | refine Below.drew ?_ | refine below_drewN ?_ _ | refine below_new ?_ _ | refine below_set ?_ ?_ _ | refine below_then ?_ (by assumption) | refine below_drawn ?_ (by assumption) | exact Nat.le_refl _ | omega | (simp; done) | (simp; omega)))
  clear hb
  have d0 := a0.cell 0; have d1 := a0.cell 1; simp at d0 d1
  go_wp2_with fail
  refine (cycle_open _ _ _ _ _ _ _ xs ys _ _ _ zs OK.out Q3.out Q4.out ((H1.out.below b0 (Nat.le_refl _)).more b0.size) ((H2.out.below b0 (Nat.le_refl _)).more b0.size) ((H3.out.below b0 (Nat.le_refl _)).more b0.size)).mono ?_
  rintro e w2 ⟨ho, hb⟩
  replace b0 := below_then b0 hb
  clear hb d0 d1 a0
  rcases ho with ⟨k, a, m, rfl, hno⟩ | ⟨k, a, m, hk, hj, hm, rfl⟩
  · have NO := Lib.hid hno; clear hno
    go_wp2_with fail
    refine wp_loop_rounds 1 ?_; rw [rounds_succ]
    go_wp2_with fail
    go_ret2
    exact ⟨[], none, 0, 0, rfl, ⟨rfl, by omega, by simp, fun h => absurd h (by omega)⟩, trivial, by simpa using hn1, Or.inr fun d' _ _ => NO.out d', by (repeat' (first | exact Below.refl _ _ | assumption | refine Below.drew ?_ | refine below_drewN ?_ _ | refine below_new ?_ _ | refine below_set ?_ ?_ _ | refine below_then ?_ (by assumption) | refine below_drawn ?_ (by assumption) | exact Nat.le_refl _ | omega | (simp; done) | (simp; omega)))⟩
  · have HJ := Lib.hid hj; clear hj
    go_wp2_with fail
    have aS := At.new w2 (.cells #[.slice a1 n3 c1, .slice a2 n3 c2, .slice a3 n3 c3, .int .i64 a, .int .i64 m, .int .i64 k] 107)
    have b1 := below_new b0 (.cells #[.slice a1 n3 c1, .slice a2 n3 c2, .slice a3 n3 c3, .int .i64 a, .int .i64 m, .int .i64 k] 107)
    have hw2 : w.heap.size ≤ w2.heap.size := b0.size
    clear b0
    generalize World.alloc _ _ = W1 at aS b1 ⊢
    generalize w2.heap.size = g at *
    go_loopw [1, 12, 13, 14] (fun t b v _ wr => ∃ (L : List Int) (D : Int) (B : Bool) (j : Nat), t = .int .i64 D ∧ b = .bool B ∧ L.length = j ∧ (j : Int) ≤ n ∧ D = endOf d L ∧ d ≤ D ∧ D ≤ 4000001 ∧ Chain (Fits xs ys zs n3) d L ∧ (B = false → ∀ d', D ≤ d' → d' ≤ 4000000 → ¬ Fits xs ys zs n3 d') ∧ wr.ownsRow (g + 1) 3 1 v j (L.map (Value.int .i64)) ∧ At wr g (.cells #[.slice a1 n3 c1, .slice a2 n3 c2, .slice a3 n3 c3, .int .i64 a, .int .i64 m, .int .i64 k] 107) ∧ Below w.heap.size w wr) (fun t b _ _ _ => 2 * (4000002 - intOf t).toNat + boolNat b)
    case atStart => exact ⟨[], d, true, 0, rfl, rfl, rfl, by omega, rfl, by omega, by omega, trivial, (by intro h; simp at h), World.ownsRow_nil _ _ _ _, aS, b1⟩
    case round =>
      clear aS b1
      obtain ⟨L, D, B, j, rfl, rfl, hL, hj, hD, D1, D2, hch, hno, hown, aS, b0⟩ := hrel
      have HL := Lib.hid hL; have HDD := Lib.hid hD; have HCH := Lib.hid hch; have HNO := Lib.hid hno
      clear hL hD hch hno
      have hgl := aS.lt
      have s0 := aS.cell 0; have s1 := aS.cell 1; have s2 := aS.cell 2; have s3 := aS.cell 3; have s4 := aS.cell 4; have s5 := aS.cell 5; simp at s0 s1 s2 s3 s4 s5
      cases B
      case false =>
        obtain ⟨aa, cc, hv, _, _, hI⟩ := own_ints hown (fun z hz => by have := chain_in L d HCH.out z hz; unfold I64; omega) HL.out
        subst hv
        have HI := Lib.hid hI; clear hI hown
        go_wp2_with fail
        go_ret2
        exact ⟨L, aa, j, cc, rfl, HI.out, HCH.out, hj, Or.inr fun d' p1 p2 => HNO.out (by simp) d' (by rw [HDD.out]; exact p1) p2, b0⟩
      case true =>
        obtain ⟨aa, cc, hv, _, _, hI⟩ := own_ints hown (fun z hz => by have := chain_in L d HCH.out z hz; unfold I64; omega) HL.out
        subst hv
        have HI := Lib.hid hI; have OWN := Lib.hid hown; clear hI hown
        by_cases hlt : (j : Int) < n
        · go_wp2_with fail
          refine (cycle_next _ _ _ _ _ _ _ _ xs ys zs k a m D hk HJ.out hm (by omega) (by omega) OK.out Q3.out Q4.out ((H1.out.below b0 (Nat.le_refl _)).more b0.size) ((H2.out.below b0 (Nat.le_refl _)).more b0.size) ((H3.out.below b0 (Nat.le_refl _)).more b0.size)).mono ?_
          rintro e w3 ⟨ho, hb⟩
          have OWN3 := Lib.hid (own_then OWN.out hb)
          replace aS := aS.then_ hb
          replace b0 := below_then b0 hb
          clear hb OWN HI s0 s1 s2 s3 s4 s5 hgl
          rcases ho with ⟨X, e1, e2, hf, hn, rfl⟩ | ⟨hn, rfl⟩
          · have HF := Lib.hid hf; have HN := Lib.hid hn; clear hf hn
            have t0 : IntKind.i64.wrap (X + 1) = X + 1 := IntWalk.i64_in _ (by omega)
            have hw3 : g + 1 ≤ w3.heap.size := aS.lt
            go_wp2_with (at_builtin; refine wpList_append_own _ rfl _ _ 22 rfl (g + 1) 3 i0 (.int .i64 0) 1 8 Try.underlying22 hi hz0 hz1 hz2 rfl (by decide) _ _ _ rfl (OWN3.out.alloc _) ⟨w3.heap.size, 0, none⟩ 1 1 [.int .i64 X] rfl rfl ?c1 ?c2 ?c3 ?c4 ?c5 ?_)
            case c1 =>
              intro i u hi
              match i, hi with
              | 0, hi => simp at hi; subst hi; simp [Addr.add]
            case c2 => intro u hu; simp at hu; subst hu; rfl
            case c3 => unfold maxLen; omega
            case c4 => omega
            case c5 => simp; omega
            intro v' w4 hown' hgrow _
            have aS' := (aS.alloc (.cells #[.int .i64 X] 3)).grown' hgrow (own_above OWN3.out (by omega))
            have b1' : Below w.heap.size w w4 := (below_new b0 (.cells #[.int .i64 X] 3)).grown hgrow (by simp; omega) (fun b hb => by
              rcases Nat.lt_or_ge b (g + 1) with h | h
              · exact absurd hb.symm (own_above OWN3.out h)
              · omega)
            have OWN' := Lib.hid hown'
            clear hown' hgrow aS b0 OWN3
            go_wp2_with fail
            go_roundw
            case rel =>
              refine ⟨L ++ [X], X + 1, true, j + 1, by go_num, rfl, by rw [List.length_append, HL.out]; rfl, by omega, (endOf_snoc L d X).symm, by omega, by omega, chain_snoc L d X HCH.out (by rw [← HDD.out]; exact e1) e2 HF.out (by rw [← HDD.out]; exact HN.out), (by intro h; simp at h), ?_, aS', b1'⟩
              rw [List.map_append]
              exact OWN'.out
            case measure => simp [intOf, boolNat]; omega
          · have HN := Lib.hid hn; clear hn
            go_wp2_with fail
            go_roundw
            case rel => exact ⟨L, D, false, j, rfl, rfl, HL.out, hj, HDD.out, D1, D2, HCH.out, fun _ => HN.out, OWN3.out, aS, b0⟩
            case measure => simp [intOf, boolNat]
        · go_wp2_with fail
          go_ret2
          exact ⟨L, aa, j, cc, rfl, HI.out, HCH.out, hj, Or.inl (by omega), b0⟩
end Go.Proofs.Ytkeicdimkmmnfaa
