/- Contract of observed.Of. -/
import Derived.Test.YtjjmbnflhldoeaaOf0
import Derived.Test.YtjjmbnflhldoeaaOfP
import Derived.Test.YtjjmbnflhldoeaaAfter
import Derived.Test.YtjjmbnflhldoeaaCycle2
import Derived.Deep.Cut
namespace Go.Proofs.Ytjjmbnflhldoeaa
set_option linter.unusedVariables false
set_option maxRecDepth 100000
open Go.RowKit

theorem At.store4 {w : World} {b : Nat} {x0 x1 x2 x3 : Value} {t : TypeId} {m : Nat × Nat} (h : At w b (.cells #[x0, x1, x2, x3] t m)) (u0 u1 u2 u3 : Value) : At ((((w.setCell ⟨b, 0, none⟩ u0).setCell ⟨b, 1, none⟩ u1).setCell ⟨b, 2, none⟩ u2).setCell ⟨b, 3, none⟩ u3) b (.cells #[u0, u1, u2, u3] t m) := by
  have := ((((h.store 0 u0).store 1 u1).store 2 u2).store 3 u3)
  simpa using this
theorem below_set4 {B : Nat} {a w : World} (h : Below B a w) {p : Nat} (hp : B ≤ p) (u0 u1 u2 u3 : Value) : Below B a ((((w.setCell ⟨p, 0, none⟩ u0).setCell ⟨p, 1, none⟩ u1).setCell ⟨p, 2, none⟩ u2).setCell ⟨p, 3, none⟩ u3) := (below_set (below_set (below_set (below_set h hp _) hp _) hp _) hp _)
theorem At.apart4 {w : World} {b : Nat} {o : Obj} (h : At w b o) {p : Nat} (hp : b ≠ p) (u0 u1 u2 u3 : Value) : At ((((w.setCell ⟨p, 0, none⟩ u0).setCell ⟨p, 1, none⟩ u1).setCell ⟨p, 2, none⟩ u2).setCell ⟨p, 3, none⟩ u3) b o := ((((h.apart hp _).apart hp _).apart hp _).apart hp _)
def dayB (x : Int) : Bool := inB (-4000000) 4000000 x
/-- What observed.Of leaves at a rule and years without fault. -/
def OfPost (s : ByteArray) (first : Int) (ms ds : List Int) (w : World) (e : Ending) (w' : World) : Prop :=
  (ds.all dayB = true ∧ ∃ p q, e = .returned (.tuple #[.agg #[.string s, .int .i64 first, p, q], .int .i64 0]) ∧ w'.ownsRow w.heap.size 3 1 p ms.length (iv ms) ∧ w'.ownsRow w.heap.size 3 1 q ds.length (iv ds) ∧ Below w.heap.size w w') ∨
  (ds.all dayB = false ∧ e = .returned (.tuple #[.agg #[.string ⟨#[]⟩, .int .i64 0, .slice none 0 0, .slice none 0 0], .int .i64 3]) ∧ Below w.heap.size w w')
abbrev zeroT : Obj := .cells #[.string ⟨#[]⟩, .int .i64 0, .slice none 0 0, .slice none 0 0] 44
/-- The boxes in the course of observed.Of. -/
structure OfI (w : World) (om : Obj) (B : Nat) (s : ByteArray) (first : Int) (p q : Value) (ms ds : List Int) (W : World) : Prop where
  tab : Tab W B s first p q ms ds
  rule : At W w.heap.size om
  res : At W (w.heap.size + 1) zeroT
  bel : Below w.heap.size w W
  lt : w.heap.size + 1 < B
theorem OfI.step {w W W' : World} {om : Obj} {B : Nat} {s : ByteArray} {first : Int} {p q : Value} {ms ds : List Int} (h : OfI w om B s first p q ms ds W) (k : Below W.heap.size W W') : OfI w om B s first p q ms ds W' :=
  ⟨h.tab.then_ k, h.rule.then_ k, h.res.then_ k, below_then h.bel k, h.lt⟩
theorem OfI.put1 {w W w4 : World} {om : Obj} {B : Nat} {s : ByteArray} {first : Int} {p q : Value} {ms ds : List Int} {x : Int} {o : Obj} (h : OfI w om B s first p q ms ds W) {g cap : Nat}
    (hown : w4.ownsRow (B + 1) 3 1 (.slice (some ⟨g, 0, none⟩) (ms.length + 1) cap) (ms.length + 1) (iv ms ++ [.int .i64 x])) (hg : (W.alloc o).grownBy w4 p.ownBlock) (hl : p.ownBlock = some g ∨ g = (W.alloc o).heap.size) :
    OfI w om B s first (.slice (some ⟨g, 0, none⟩) (ms.length + 1) cap) q (ms ++ [x]) ds (w4.setCell ⟨B, 2, none⟩ (.slice (some ⟨g, 0, none⟩) (ms.length + 1) cap)) := by
  have hp : ∀ b, p.ownBlock = some b → B + 1 ≤ b := fun b e => (own_block h.tab.row1 e).1
  have hlt := h.lt
  exact ⟨h.tab.put1 hown hg hl, Tab.old (by omega) hp h.rule hg _ _, Tab.old (by omega) hp h.res hg _ _, below_put (by omega) h.tab.box.lt hp h.bel hg _ _, hlt⟩
theorem OfI.put2 {w W w4 : World} {om : Obj} {B : Nat} {s : ByteArray} {first : Int} {p q : Value} {ms ds : List Int} {x : Int} {o : Obj} (h : OfI w om B s first p q ms ds W) {g cap : Nat}
    (hown : w4.ownsRow (B + 1) 3 1 (.slice (some ⟨g, 0, none⟩) (ds.length + 1) cap) (ds.length + 1) (iv ds ++ [.int .i64 x])) (hg : (W.alloc o).grownBy w4 q.ownBlock) (hl : q.ownBlock = some g ∨ g = (W.alloc o).heap.size) :
    OfI w om B s first p (.slice (some ⟨g, 0, none⟩) (ds.length + 1) cap) ms (ds ++ [x]) (w4.setCell ⟨B, 3, none⟩ (.slice (some ⟨g, 0, none⟩) (ds.length + 1) cap)) := by
  have hp : ∀ b, q.ownBlock = some b → B + 1 ≤ b := fun b e => (own_block h.tab.row2 e).1
  have hlt := h.lt
  exact ⟨h.tab.put2 hown hg hl, Tab.old (by omega) hp h.rule hg _ _, Tab.old (by omega) hp h.res hg _ _, below_put (by omega) h.tab.box.lt hp h.bel hg _ _, hlt⟩
/-- The box's cell and its mark, behind the growth of a row. -/
theorem OfI.slot1 {w W w4 : World} {om : Obj} {B : Nat} {s : ByteArray} {first : Int} {p q : Value} {ms ds : List Int} {o : Obj} (h : OfI w om B s first p q ms ds W) (hg : (W.alloc o).grownBy w4 p.ownBlock) :
    w4.cell? ⟨B, 2, none⟩ = some p ∧ w4.frozen? ⟨B, 2, none⟩ = false ∧ B < w4.heap.size := by
  have a := (h.tab.box.alloc o).grown hg (fun e => by have := (own_block h.tab.row1 e).1; omega)
  exact ⟨a.cell 2, a.frozen 2, a.lt⟩
theorem OfI.slot2 {w W w4 : World} {om : Obj} {B : Nat} {s : ByteArray} {first : Int} {p q : Value} {ms ds : List Int} {o : Obj} (h : OfI w om B s first p q ms ds W) (hg : (W.alloc o).grownBy w4 q.ownBlock) :
    w4.cell? ⟨B, 3, none⟩ = some q ∧ w4.frozen? ⟨B, 3, none⟩ = false ∧ B < w4.heap.size := by
  have a := (h.tab.box.alloc o).grown hg (fun e => by have := (own_block h.tab.row2 e).1; omega)
  exact ⟨a.cell 3, a.frozen 3, a.lt⟩
theorem own_base {w : World} {b b' : Nat} {e : TypeId} {size : Nat} {v : Value} {n : Nat} {xs : List Value} (h : w.ownsRow b e size v n xs) (hb : b' ≤ b) : w.ownsRow b' e size v n xs := by
  refine ⟨h.1, ?_⟩
  rcases h.2 with h0 | ⟨g, cap, cur, hv, hg, rest⟩
  · exact .inl h0
  · exact .inr ⟨g, cap, cur, hv, by omega, rest⟩
theorem own_form' {w : World} {base : Nat} {e : TypeId} {size : Nat} {v : Value} {n : Nat} {xs : List Value} (h : w.ownsRow base e size v n xs) : ∃ a c, v = .slice a n c := by
  rcases h.2 with ⟨rfl, h0⟩ | ⟨g, cap, cur, rfl, _⟩
  · have : n = 0 := h0
    subst this; exact ⟨none, 0, rfl⟩
  · exact ⟨_, _, rfl⟩
set_option maxHeartbeats 8000000 in
theorem observed_Of_ok (w : World) (s : ByteArray) (f sn sd mn md ln ld c : Int) (a1 a2 : Option Addr) (n1 c1 n2 c2 : Nat) (ls vs : List Int) (N first : Int) (yn : Nat) (hs : s.size ≤ 9223372036854775807) (hmi : MoonI sn sd mn md ln ld) (h : MoonAt w a1 a2 n1 n2 ls vs) (q0 : moonErr s f sn sd mn md ln ld c ls vs = 0) (ok : MoonOk s f sn sd mn md ln ld c ls vs N) (hy1 : 1 ≤ yn) (hy2 : yn ≤ 40) (hf1 : -10000 ≤ first) (hf2 : first ≤ 9960) :
    Calls Try.prog 15 #[.agg #[.string s, .int .i64 f, .int .i64 sn, .int .i64 sd, .int .i64 mn, .int .i64 md, .int .i64 ln, .int .i64 ld, .int .i64 c, .slice a1 n1 c1, .slice a2 n2 c2], .int .i64 first, .int .i64 (yn : Int)] w (OfPost s first (monS (mths c ls) first yn) (fullS (mths c ls) (begD f sn sd mn md ln ld c N ls vs) first yn) w) := by
  obtain ⟨i0, hi, hz0, hz1, hz2⟩ := info_parts Try.infoInt'
  have hm := mths_in c ls
  have CK := Lib.hid (fun W (hb : Below w.heap.size w W) => lunisolar_Check W s f sn sd mn md ln ld c a1 a2 n1 c1 n2 c2 ls vs hs hmi (h.then_ hb))
  rw [q0] at CK
  have mo := fun W (hb : Below w.heap.size w W) (y : Int) (hy : inB (-10000) 10000 y = true) => lunisolar_Months_ok W s f sn sd mn md ln ld c a1 a2 n1 c1 n2 c2 ls vs N y hs hmi (h.then_ hb) q0 ok hy
  have af := fun W (hb : Below w.heap.size w W) (y m : Int) (y1 : -18000 ≤ y) (y2 : y ≤ 18000) (m1 : 1 ≤ m) (m2 : m ≤ 19) => lunisolar_After W s f sn sd mn md ln ld c a1 a2 n1 c1 n2 c2 ls vs N y m ok y1 y2 m1 m2 (h.then_ hb)
  have hbeg : beginD f sn sd mn md ln ld c N ls vs = nxt (mths c ls) (begD f sn sd mn md ln ld c N ls vs) := rfl
  rw [hbeg] at af
  clear hbeg ok q0 h
  generalize begD f sn sd mn md ln ld c N ls vs = G at af ⊢
  generalize mths c ls = mt at hm mo af ⊢
  have MO := Lib.hid mo; have AF := Lib.hid af; have HM := Lib.hid hm
  clear mo af hm
  have t0 : IntKind.i64.wrap (first + (yn : Int)) = first + (yn : Int) := IntWalk.i64_in _ (by omega)
  have d1 : decide ((yn : Int) < 1) = false := by simp; omega
  have d2 : decide (40 < (yn : Int)) = false := by simp; omega
  have d3 : decide (first < -10000) = false := by simp; omega
  have d4 : decide (9960 < first) = false := by simp; omega
  go_enter Try.func15, Try.ntmps15
  go_wp2_with fail
  have b0 := below_new (below_new (Below.refl w.heap.size w) (.cells #[.string s, .int .i64 f, .int .i64 sn, .int .i64 sd, .int .i64 mn, .int .i64 md, .int .i64 ln, .int .i64 ld, .int .i64 c, .slice a1 n1 c1, .slice a2 n2 c2] 42)) zeroT
  have ar := (At.new w (.cells #[.string s, .int .i64 f, .int .i64 sn, .int .i64 sd, .int .i64 mn, .int .i64 md, .int .i64 ln, .int .i64 ld, .int .i64 c, .slice a1 n1 c1, .slice a2 n2 c2] 42)).alloc zeroT
  have az := At.new1 w (.cells #[.string s, .int .i64 f, .int .i64 sn, .int .i64 sd, .int .i64 mn, .int .i64 md, .int .i64 ln, .int .i64 ld, .int .i64 c, .slice a1 n1 c1, .slice a2 n2 c2] 42) zeroT
  generalize World.alloc (World.alloc w _) _ = W0 at b0 ar az ⊢
  refine (CK.out _ b0).mono ?_
  rintro e W1 ⟨rfl, hb⟩
  have B1 := Lib.hid (below_then b0 hb); have AR := Lib.hid (ar.then_ hb); have AZ := Lib.hid (az.then_ hb)
  clear b0 ar az hb
  have x0 : W1.cell? ⟨w.heap.size, 0, none⟩ = some (.string s) := AR.out.cell 0
  have zl := AZ.out.lt
  go_wp2_with fail
  obtain ⟨B, hB⟩ : ∃ B, B = W1.heap.size := ⟨_, rfl⟩
  have OI0 := Lib.hid (show OfI w (.cells #[.string s, .int .i64 f, .int .i64 sn, .int .i64 sd, .int .i64 mn, .int .i64 md, .int .i64 ln, .int .i64 ld, .int .i64 c, .slice a1 n1 c1, .slice a2 n2 c2] 42) B s first (.slice none 0 0) (.slice none 0 0) (monS mt first 0) (codeS mt G first 0 0) (W1.alloc (.cells #[.string s, .int .i64 first, .slice none 0 0, .slice none 0 0] 44)) from
    ⟨⟨At.newAt _ _ _ hB, World.ownsRow_nil _ _ _ _, World.ownsRow_nil _ _ _ _, fun g e => by cases e⟩, AR.out.alloc _, AZ.out.alloc _, below_new B1.out _, by omega⟩)
  rw [← hB]
  clear hB AR AZ B1 x0 zl d1 d2 d3 d4
  go_loopw [10] (fun y wr => ∃ (k : Nat) (p q : Value), k ≤ yn ∧ y = .int .i64 (first + (k : Int)) ∧ (∀ d ∈ codeS mt G first k 0, dayB d = true) ∧ OfI w (.cells #[.string s, .int .i64 f, .int .i64 sn, .int .i64 sd, .int .i64 mn, .int .i64 md, .int .i64 ln, .int .i64 ld, .int .i64 c, .slice a1 n1 c1, .slice a2 n2 c2] 42) B s first p q (monS mt first k) (codeS mt G first k 0) wr) (fun y _ => yn - (intOf y - first).toNat)
  case atStart => exact ⟨0, _, _, by omega, by simp, by rw [code_zero]; simp, OI0.out⟩
  case round =>
    clear OI0
    obtain ⟨k, p, q, hk, rfl, hall, hoi⟩ := hrel
    have HALL := Lib.hid hall; have OI := Lib.hid hoi
    clear hall
    by_cases hlt : k < yn
    · -- one year
      obtain ⟨y, hyy⟩ : ∃ y, y = first + (k : Int) := ⟨_, rfl⟩
      rw [← hyy]
      have hn := HM.out y
      obtain ⟨n, hnn⟩ : ∃ n, n = mt y := ⟨_, rfl⟩
      rw [← hnn] at hn
      have HNN := Lib.hid hnn; have HYY := Lib.hid hyy
      have t1 : IntKind.i64.wrap (y + 1) = y + 1 := IntWalk.i64_in _ (by omega)
      have dlt : y < first + (yn : Int) := by omega
      have hyi : inB (-10000) 10000 y = true := inB_yes (by omega) (by omega)
      have yb1 : -10000 ≤ y := by omega
      have yb2 : y ≤ 10000 := by omega
      have MOY := Lib.hid (fun W hb => MO.out W hb y hyi)
      rw [← hnn] at MOY
      obtain ⟨ms, hms⟩ : ∃ ms, ms = monS mt first k := ⟨_, rfl⟩
      have hl40 : ms.length ≤ 40 := by rw [hms, monS_len]; omega
      rw [← hms] at hoi
      have HMS := Lib.hid hms
      have OIM := Lib.hid hoi
      obtain ⟨pa, pc, rfl⟩ := own_form' hoi.tab.row1
      have x0 := (hoi.rule).cell 0
      have x1 := (hoi.rule).cell 1
      have x2 := (hoi.rule).cell 2
      have x3 := (hoi.rule).cell 3
      have x4 := (hoi.rule).cell 4
      have x5 := (hoi.rule).cell 5
      have x6 := (hoi.rule).cell 6
      have x7 := (hoi.rule).cell 7
      have x8 := (hoi.rule).cell 8
      have x9 := (hoi.rule).cell 9
      have x10 := (hoi.rule).cell 10
      clear hoi hms hyi hnn hyy OI
      go_wp2_with fail
      refine (MOY.out _ OIM.out.bel).mono ?_
      rintro e W2 ⟨rfl, hb⟩
      have o2 := OIM.out.step hb
      have O2 := Lib.hid o2
      have R1 := Lib.hid o2.tab.row1
      have bs : B + 1 ≤ W2.heap.size := o2.tab.box.lt
      have hc2 : W2.cell? ⟨B, 2, none⟩ = some (.slice pa ms.length pc) := o2.tab.box.cell 2
      clear o2 hb OIM x0 x1 x2 x3 x4 x5 x6 x7 x8 x9 x10
      go_wp2_with (at_builtin; refine wpList_append_lies _ rfl _ _ 22 rfl (B + 1) 3 i0 (.int .i64 0) 1 8 Try.underlying22 hi hz0 hz1 hz2 rfl (by decide) _ _ _ rfl (R1.out.alloc _) ⟨W2.heap.size, 0, none⟩ 1 1 [.int .i64 n] rfl rfl (World.news_of_block (cs := #[.int .i64 n]) (t := 3) (fr := (0, 0)) (heap_alloc_new W2 _)) (by simp [Value.oneCell']) (by decide) (by unfold maxLen; omega) (by omega) (by first | omega | (simp; omega)) _ rfl ?_; intro g4 cap4 w4 hown' hgrow hlies hglt; have ⟨hcl, hfz, hbz⟩ := O2.out.slot1 hgrow)
      have O3 := Lib.hid (O2.out.put1 hown' hgrow hlies)
      generalize World.setCell w4 _ _ = W3 at O3 ⊢
      clear hown' hgrow hlies hglt hcl hfz hbz O2 R1 hc2 bs
      go_loopw [13] (fun m wr => ∃ (j : Nat) (p q : Value), (j : Int) ≤ n ∧ m = .int .i64 ((j : Int) + 1) ∧ (∀ d ∈ codeS mt G first k j, dayB d = true) ∧ OfI w (.cells #[.string s, .int .i64 f, .int .i64 sn, .int .i64 sd, .int .i64 mn, .int .i64 md, .int .i64 ln, .int .i64 ld, .int .i64 c, .slice a1 n1 c1, .slice a2 n2 c2] 42) B s first p q (ms ++ [n]) (codeS mt G first k j) wr) (fun m _ => 20 - (intOf m).toNat)
      case atStart => exact ⟨0, _, _, by omega, by simp, HALL.out, O3.out⟩
      case round =>
        clear O3 HALL
        obtain ⟨j, p, q, hj, rfl, hall, hoi⟩ := hrel
        have HALL := Lib.hid hall; have OI := Lib.hid hoi
        clear hall
        have hcl := code_len (mt := mt) (g := G) (first := first) HM.out k j
        obtain ⟨ds, hds⟩ : ∃ ds, ds = codeS mt G first k j := ⟨_, rfl⟩
        rw [← hds] at hcl hoi HALL
        have HDS := Lib.hid hds
        clear OI
        have OI := Lib.hid hoi
        by_cases hjn : (j : Int) < n
        · -- one month
          have dle : (j : Int) + 1 ≤ n := by omega
          have LOM := Lib.hid (show nxt mt G y (j + 1) ∈ fullS mt G first yn from by
            rw [HYY.out]; exact mem_nxt HM.out hlt (by rw [← HYY.out, ← HNN.out]; omega))
          have HIM := Lib.hid (show nxt mt G y ((j : Int) + 1 + 1) ∈ fullS mt G first yn from by
            have := mem_nxt (g := G) (first := first) (j := j + 1) HM.out hlt (by rw [← HYY.out, ← HNN.out]; omega)
            rw [HYY.out]; rw [Int.natCast_add] at this; exact this)
          have AFY := Lib.hid (fun W hb => AF.out W hb y ((j : Int) + 1) (by omega) (by omega) (by omega) (by omega))
          have HC0 := Lib.hid (show k = 0 ∧ j = 0 → codeS mt G first k (j + 1) = [nxt mt G y ((j : Int) + 1)] ++ [nxt mt G y ((j : Int) + 1 + 1)] from by
            rintro ⟨rfl, rfl⟩
            have e : y = first := by rw [HYY.out]; simp
            have := code_first (mt := mt) (g := G) (first := first) (by rw [← e, ← HNN.out]; omega)
            rw [e]; simpa using this)
          have HC1 := Lib.hid (show ¬ (k = 0 ∧ j = 0) → codeS mt G first k (j + 1) = ds ++ [nxt mt G y ((j : Int) + 1 + 1)] from by
            intro h
            rw [HDS.out, HYY.out]
            exact code_step h (by rw [← HYY.out, ← HNN.out]; omega))
          obtain ⟨lo, hlo⟩ : ∃ lo, lo = nxt mt G y ((j : Int) + 1) := ⟨_, rfl⟩
          obtain ⟨hg, hhg⟩ : ∃ hg, hg = nxt mt G y ((j : Int) + 1 + 1) := ⟨_, rfl⟩
          rw [← hlo] at LOM AFY HC0
          rw [← hhg] at HIM AFY HC0 HC1
          have x0 := (hoi.rule).cell 0
          have x1 := (hoi.rule).cell 1
          have x2 := (hoi.rule).cell 2
          have x3 := (hoi.rule).cell 3
          have x4 := (hoi.rule).cell 4
          have x5 := (hoi.rule).cell 5
          have x6 := (hoi.rule).cell 6
          have x7 := (hoi.rule).cell 7
          have x8 := (hoi.rule).cell 8
          have x9 := (hoi.rule).cell 9
          have x10 := (hoi.rule).cell 10
          clear hoi hlo hhg
          go_wp2_with fail
          refine (AFY.out _ OI.out.bel).mono ?_
          cases hin : (inB (-4000000) 4000000 lo && inB (-4000000) 4000000 hg) with
          | false =>
            rintro e W4 ⟨rfl, hb⟩
            have o4 := OI.out.step hb
            have O4 := Lib.hid o4
            have HF := Lib.hid (show (fullS mt G first yn).all dayB = false from by
              cases hc : (fullS mt G first yn).all dayB with
              | false => rfl
              | true =>
                have h1 := List.all_eq_true.1 hc _ LOM.out
                have h2 := List.all_eq_true.1 hc _ HIM.out
                unfold dayB at h1 h2
                rw [h1, h2] at hin; cases hin)
            have z0 : W4.cell? ⟨w.heap.size + 1, 0, none⟩ = some (.string ⟨#[]⟩) := (o4.res).cell 0
            have zf0 : W4.frozen? ⟨w.heap.size + 1, 0, none⟩ = false := (o4.res).frozen 0
            have z1 : W4.cell? ⟨w.heap.size + 1, 1, none⟩ = some (.int .i64 0) := (o4.res).cell 1
            have zf1 : W4.frozen? ⟨w.heap.size + 1, 1, none⟩ = false := (o4.res).frozen 1
            have z2 : W4.cell? ⟨w.heap.size + 1, 2, none⟩ = some (.slice none 0 0) := (o4.res).cell 2
            have zf2 : W4.frozen? ⟨w.heap.size + 1, 2, none⟩ = false := (o4.res).frozen 2
            have z3 : W4.cell? ⟨w.heap.size + 1, 3, none⟩ = some (.slice none 0 0) := (o4.res).cell 3
            have zf3 : W4.frozen? ⟨w.heap.size + 1, 3, none⟩ = false := (o4.res).frozen 3
            have zl : w.heap.size + 1 < W4.heap.size := (o4.res).lt
            clear o4 hb OI hin x0 x1 x2 x3 x4 x5 x6 x7 x8 x9 x10
            go_wp2_with fail
            have AFN := O4.out.res.store4 (.string ⟨#[]⟩) (.int .i64 0) (.slice none 0 0) (.slice none 0 0)
            have BL := Lib.hid (below_set4 O4.out.bel (p := w.heap.size + 1) (by omega) (.string ⟨#[]⟩) (.int .i64 0) (.slice none 0 0) (.slice none 0 0))
            have e0 : ((((W4.setCell ⟨w.heap.size + 1, 0, none⟩ (.string ⟨#[]⟩)).setCell ⟨w.heap.size + 1, 1, none⟩ (.int .i64 0)).setCell ⟨w.heap.size + 1, 2, none⟩ (.slice none 0 0)).setCell ⟨w.heap.size + 1, 3, none⟩ (.slice none 0 0)).cell? ⟨w.heap.size + 1, 0, none⟩ = some (.string ⟨#[]⟩) := AFN.cell 0
            have e1 : ((((W4.setCell ⟨w.heap.size + 1, 0, none⟩ (.string ⟨#[]⟩)).setCell ⟨w.heap.size + 1, 1, none⟩ (.int .i64 0)).setCell ⟨w.heap.size + 1, 2, none⟩ (.slice none 0 0)).setCell ⟨w.heap.size + 1, 3, none⟩ (.slice none 0 0)).cell? ⟨w.heap.size + 1, 1, none⟩ = some (.int .i64 0) := AFN.cell 1
            have e2 : ((((W4.setCell ⟨w.heap.size + 1, 0, none⟩ (.string ⟨#[]⟩)).setCell ⟨w.heap.size + 1, 1, none⟩ (.int .i64 0)).setCell ⟨w.heap.size + 1, 2, none⟩ (.slice none 0 0)).setCell ⟨w.heap.size + 1, 3, none⟩ (.slice none 0 0)).cell? ⟨w.heap.size + 1, 2, none⟩ = some (.slice none 0 0) := AFN.cell 2
            have e3 : ((((W4.setCell ⟨w.heap.size + 1, 0, none⟩ (.string ⟨#[]⟩)).setCell ⟨w.heap.size + 1, 1, none⟩ (.int .i64 0)).setCell ⟨w.heap.size + 1, 2, none⟩ (.slice none 0 0)).setCell ⟨w.heap.size + 1, 3, none⟩ (.slice none 0 0)).cell? ⟨w.heap.size + 1, 3, none⟩ = some (.slice none 0 0) := AFN.cell 3
            exact bodyPost_ret (v := .tuple #[.agg #[.string ⟨#[]⟩, .int .i64 0, .slice none 0 0, .slice none 0 0], .int .i64 3]) (by simp [results, Try.results15, go_sem, e0, e1, e2, e3]) rfl (.inr ⟨HF.out, rfl, BL.out⟩)
          | true =>
            rintro e W4 ⟨rfl, hb⟩
            have o4 := OI.out.step hb
            have O4 := Lib.hid o4
            have hlo2 : dayB lo = true ∧ dayB hg = true := by
              unfold dayB; rw [Bool.and_eq_true] at hin; exact hin
            have HLO := Lib.hid hlo2
            obtain ⟨qa, qc, rfl⟩ := own_form' o4.tab.row2
            have bs : B + 1 ≤ W4.heap.size := o4.tab.box.lt
            by_cases h0 : k = 0 ∧ j = 0
            · have hd0 : ds = [] := by rw [HDS.out, h0.1, h0.2]; rfl
              subst hd0
              have HC := Lib.hid (HC0.out h0)
              have R2 := Lib.hid (show W4.ownsRow (B + 1) 3 1 (.slice qa 0 qc) 0 [] from o4.tab.row2)
              have O4 := Lib.hid (show OfI w (.cells #[.string s, .int .i64 f, .int .i64 sn, .int .i64 sd, .int .i64 mn, .int .i64 md, .int .i64 ln, .int .i64 ld, .int .i64 c, .slice a1 n1 c1, .slice a2 n2 c2] 42) B s first p (.slice qa 0 qc) (ms ++ [n]) [] W4 from o4)
              have hc3 : W4.cell? ⟨B, 3, none⟩ = some (.slice qa 0 qc) := o4.tab.box.cell 3
              clear o4 hb OI hin hlo2 HC0 HC1 h0 x0 x1 x2 x3 x4 x5 x6 x7 x8 x9 x10
              go_upto_region 22 with (at_builtin; refine wpList_append_lies _ rfl _ _ 22 rfl (B + 1) 3 i0 (.int .i64 0) 1 8 Try.underlying22 hi hz0 hz1 hz2 rfl (by decide) _ _ _ rfl (R2.out.alloc _) ⟨W4.heap.size, 0, none⟩ 1 1 [.int .i64 lo] rfl rfl (World.news_of_block (cs := #[.int .i64 lo]) (t := 3) (fr := (0, 0)) (heap_alloc_new W4 _)) (by simp [Value.oneCell']) (by decide) (by unfold maxLen; omega) (by omega) (by first | omega | (simp; omega)) _ rfl ?_; intro g4 cap4 w4 hown' hgrow hlies hglt; have ⟨hcl4, hfz, hbz⟩ := O4.out.slot2 hgrow)
              have o5 : OfI w (.cells #[.string s, .int .i64 f, .int .i64 sn, .int .i64 sd, .int .i64 mn, .int .i64 md, .int .i64 ln, .int .i64 ld, .int .i64 c, .slice a1 n1 c1, .slice a2 n2 c2] 42) B s first p (.slice (some ⟨g4, 0, none⟩) 1 cap4) (ms ++ [n]) [lo] (w4.setCell ⟨B, 3, none⟩ (.slice (some ⟨g4, 0, none⟩) 1 cap4)) := O4.out.put2 (ds := []) (x := lo) hown' hgrow hlies
              have O5 := Lib.hid o5
              have R5 := Lib.hid (show (w4.setCell ⟨B, 3, none⟩ (.slice (some ⟨g4, 0, none⟩) 1 cap4)).ownsRow (B + 1) 3 1 (.slice (some ⟨g4, 0, none⟩) 1 cap4) 1 [.int .i64 lo] from o5.tab.row2)
              have bs5 : B + 1 ≤ (w4.setCell ⟨B, 3, none⟩ (.slice (some ⟨g4, 0, none⟩) 1 cap4)).heap.size := o5.tab.box.lt
              have hc5 : (w4.setCell ⟨B, 3, none⟩ (.slice (some ⟨g4, 0, none⟩) 1 cap4)).cell? ⟨B, 3, none⟩ = some (.slice (some ⟨g4, 0, none⟩) 1 cap4) := o5.tab.box.cell 3
              generalize World.setCell w4 _ _ = W5 at O5 R5 bs5 hc5 ⊢
              clear o5 hown' hgrow hlies hglt hcl4 hfz hbz O4 R2 hc3 bs
              go_wp2_with (at_builtin; refine wpList_append_lies _ rfl _ _ 22 rfl (B + 1) 3 i0 (.int .i64 0) 1 8 Try.underlying22 hi hz0 hz1 hz2 rfl (by decide) _ _ _ rfl (R5.out.alloc _) ⟨W5.heap.size, 0, none⟩ 1 1 [.int .i64 hg] rfl rfl (World.news_of_block (cs := #[.int .i64 hg]) (t := 3) (fr := (0, 0)) (heap_alloc_new W5 _)) (by simp [Value.oneCell']) (by decide) (by unfold maxLen; omega) (by omega) (by first | omega | (simp; omega)) _ rfl ?_; intro g4 cap4 w4 hown' hgrow hlies hglt; have ⟨hcl5, hfz, hbz⟩ := O5.out.slot2 hgrow)
              have o6 : OfI w (.cells #[.string s, .int .i64 f, .int .i64 sn, .int .i64 sd, .int .i64 mn, .int .i64 md, .int .i64 ln, .int .i64 ld, .int .i64 c, .slice a1 n1 c1, .slice a2 n2 c2] 42) B s first p (.slice (some ⟨g4, 0, none⟩) 2 cap4) (ms ++ [n]) [lo, hg] (w4.setCell ⟨B, 3, none⟩ (.slice (some ⟨g4, 0, none⟩) 2 cap4)) := O5.out.put2 (ds := [lo]) (x := hg) hown' hgrow hlies
              have O6 := Lib.hid o6
              generalize World.setCell w4 _ _ = W6 at O6 ⊢
              clear o6 hown' hgrow hlies hglt hcl5 hfz hbz O5 R5 hc5 bs5
              go_roundw
              case rel => exact ⟨j + 1, _, _, by omega, by go_num, by rw [HC.out]; intro d hd; rcases List.mem_append.1 hd with hd | hd; rw [List.mem_singleton.1 hd]; exact HLO.out.1; rw [List.mem_singleton.1 hd]; exact HLO.out.2, by rw [HC.out]; exact O6.out⟩
              case measure => simp [intOf]; omega
            · have hne : ds.length ≠ 0 := by
                rw [HDS.out, code_pos h0]; simp
              obtain ⟨nd, hnd⟩ : ∃ nd, nd = ds.length := ⟨_, rfl⟩
              have dne : ((nd : Int) == 0) = false := by rw [beq_eq_false_iff_ne]; omega
              have hn6 : nd ≤ 600 := by omega
              have HC := Lib.hid (HC1.out h0)
              have R2 := Lib.hid (show W4.ownsRow (B + 1) 3 1 (.slice qa nd qc) nd (iv ds) from by rw [hnd]; exact o4.tab.row2)
              have hc3 : W4.cell? ⟨B, 3, none⟩ = some (.slice qa nd qc) := by rw [hnd]; exact o4.tab.box.cell 3
              have O4 := Lib.hid (show OfI w (.cells #[.string s, .int .i64 f, .int .i64 sn, .int .i64 sd, .int .i64 mn, .int .i64 md, .int .i64 ln, .int .i64 ld, .int .i64 c, .slice a1 n1 c1, .slice a2 n2 c2] 42) B s first p (.slice qa nd qc) (ms ++ [n]) ds W4 from by rw [hnd]; exact o4)
              have HND := Lib.hid hnd
              clear o4 hb OI hin hlo2 HC0 HC1 h0 hne hnd hcl x0 x1 x2 x3 x4 x5 x6 x7 x8 x9 x10
              go_wp2_with (at_builtin; refine wpList_append_lies _ rfl _ _ 22 rfl (B + 1) 3 i0 (.int .i64 0) 1 8 Try.underlying22 hi hz0 hz1 hz2 rfl (by decide) _ _ _ rfl (R2.out.alloc _) ⟨W4.heap.size, 0, none⟩ 1 1 [.int .i64 hg] rfl rfl (World.news_of_block (cs := #[.int .i64 hg]) (t := 3) (fr := (0, 0)) (heap_alloc_new W4 _)) (by simp [Value.oneCell']) (by decide) (by unfold maxLen; omega) (by omega) (by first | omega | (simp; omega)) _ rfl ?_; intro g4 cap4 w4 hown' hgrow hlies hglt; have ⟨hcl4, hfz, hbz⟩ := O4.out.slot2 hgrow)
              have O5 := Lib.hid (show OfI w (.cells #[.string s, .int .i64 f, .int .i64 sn, .int .i64 sd, .int .i64 mn, .int .i64 md, .int .i64 ln, .int .i64 ld, .int .i64 c, .slice a1 n1 c1, .slice a2 n2 c2] 42) B s first p (.slice (some ⟨g4, 0, none⟩) (nd + 1) cap4) (ms ++ [n]) (ds ++ [hg]) (w4.setCell ⟨B, 3, none⟩ (.slice (some ⟨g4, 0, none⟩) (nd + 1) cap4)) from by
                have hnd := HND.out
                subst hnd
                exact O4.out.put2 hown' hgrow hlies)
              generalize World.setCell w4 _ _ = W5 at O5 ⊢
              clear hown' hgrow hlies hglt hcl4 hfz hbz O4 R2 hc3 bs
              go_roundw
              case rel => exact ⟨j + 1, _, _, by omega, by go_num, by rw [HC.out]; intro d hd; rcases List.mem_append.1 hd with hd | hd; exact HALL.out d hd; rw [List.mem_singleton.1 hd]; exact HLO.out.2, by rw [HC.out]; exact O5.out⟩
              case measure => simp [intOf]; omega
        · -- the year's end
          have hje : (j : Int) = n := by omega
          have HE := Lib.hid (show ds = codeS mt G first (k + 1) 0 from by
            rw [HDS.out, ← code_year HM.out k, ← HYY.out, ← HNN.out, ← hje]; rfl)
          have HM1 := Lib.hid (show ms ++ [n] = monS mt first (k + 1) from by rw [monS_succ, ← HMS.out, ← HYY.out, ← HNN.out])
          have HY1 := Lib.hid (show y + 1 = first + ((k + 1 : Nat) : Int) from by rw [HYY.out]; omega)
          have dle : n < (j : Int) + 1 := by omega
          clear hoi hje hds hcl
          go_wp2_with fail
          go_roundw
          case rel => exact ⟨k + 1, _, _, by omega, congrArg (Value.int .i64) HY1.out, by rw [← HE.out]; exact HALL.out, by rw [← HE.out, ← HM1.out]; exact OI.out⟩
          case measure => have h9 := HYY.out; simp [intOf]; omega
    · obtain rfl : k = yn := by omega
      have HF := Lib.hid (show (fullS mt G first k).all dayB = true from by
        rw [← code_full HM.out (by omega)]; exact List.all_eq_true.2 HALL.out)
      have dlt : ¬ first + (k : Int) < first + (k : Int) := by omega
      rw [code_full HM.out (by omega)] at hoi
      obtain ⟨pa, pc, hp⟩ := own_form' hoi.tab.row1
      obtain ⟨qa, qc, hq⟩ := own_form' hoi.tab.row2
      obtain ⟨np, hnp⟩ : ∃ np, np = (monS mt first k).length := ⟨_, rfl⟩
      obtain ⟨nq, hnq⟩ : ∃ nq, nq = (fullS mt G first k).length := ⟨_, rfl⟩
      rw [← hnp] at hp
      rw [← hnq] at hq
      clear hnp hnq
      subst hp hq
      have O4 := Lib.hid hoi
      have z0 : wr.cell? ⟨w.heap.size + 1, 0, none⟩ = some (.string ⟨#[]⟩) := (hoi.res).cell 0
      have zf0 : wr.frozen? ⟨w.heap.size + 1, 0, none⟩ = false := (hoi.res).frozen 0
      have z1 : wr.cell? ⟨w.heap.size + 1, 1, none⟩ = some (.int .i64 0) := (hoi.res).cell 1
      have zf1 : wr.frozen? ⟨w.heap.size + 1, 1, none⟩ = false := (hoi.res).frozen 1
      have z2 : wr.cell? ⟨w.heap.size + 1, 2, none⟩ = some (.slice none 0 0) := (hoi.res).cell 2
      have zf2 : wr.frozen? ⟨w.heap.size + 1, 2, none⟩ = false := (hoi.res).frozen 2
      have z3 : wr.cell? ⟨w.heap.size + 1, 3, none⟩ = some (.slice none 0 0) := (hoi.res).cell 3
      have zf3 : wr.frozen? ⟨w.heap.size + 1, 3, none⟩ = false := (hoi.res).frozen 3
      have zl : w.heap.size + 1 < wr.heap.size := (hoi.res).lt
      have y0 : wr.cell? ⟨B, 0, none⟩ = some (.string s) := hoi.tab.box.cell 0
      have y1 : wr.cell? ⟨B, 1, none⟩ = some (.int .i64 first) := hoi.tab.box.cell 1
      have y2 : wr.cell? ⟨B, 2, none⟩ = some (.slice pa np pc) := hoi.tab.box.cell 2
      have y3 : wr.cell? ⟨B, 3, none⟩ = some (.slice qa nq qc) := hoi.tab.box.cell 3
      clear hoi OI HALL
      go_wp2_with fail
      have AFN := O4.out.res.store4 (.string s) (.int .i64 first) (.slice pa np pc) (.slice qa nq qc)
      have BL := Lib.hid (below_set4 O4.out.bel (p := w.heap.size + 1) (by omega) (.string s) (.int .i64 first) (.slice pa np pc) (.slice qa nq qc))
      have hlt := O4.out.lt
      have T4 := O4.out.tab
      have ro1 := own_move (own_base T4.row1 (show w.heap.size ≤ B + 1 by omega)) (fun g o e a => a.apart4 (p := w.heap.size + 1) (by have := (own_block T4.row1 e).1; omega) (.string s) (.int .i64 first) (.slice pa np pc) (.slice qa nq qc))
      have ro2 := own_move (own_base T4.row2 (show w.heap.size ≤ B + 1 by omega)) (fun g o e a => a.apart4 (p := w.heap.size + 1) (by have := (own_block T4.row2 e).1; omega) (.string s) (.int .i64 first) (.slice pa np pc) (.slice qa nq qc))
      have e0 : ((((wr.setCell ⟨w.heap.size + 1, 0, none⟩ (.string s)).setCell ⟨w.heap.size + 1, 1, none⟩ (.int .i64 first)).setCell ⟨w.heap.size + 1, 2, none⟩ (.slice pa np pc)).setCell ⟨w.heap.size + 1, 3, none⟩ (.slice qa nq qc)).cell? ⟨w.heap.size + 1, 0, none⟩ = some (.string s) := AFN.cell 0
      have e1 : ((((wr.setCell ⟨w.heap.size + 1, 0, none⟩ (.string s)).setCell ⟨w.heap.size + 1, 1, none⟩ (.int .i64 first)).setCell ⟨w.heap.size + 1, 2, none⟩ (.slice pa np pc)).setCell ⟨w.heap.size + 1, 3, none⟩ (.slice qa nq qc)).cell? ⟨w.heap.size + 1, 1, none⟩ = some (.int .i64 first) := AFN.cell 1
      have e2 : ((((wr.setCell ⟨w.heap.size + 1, 0, none⟩ (.string s)).setCell ⟨w.heap.size + 1, 1, none⟩ (.int .i64 first)).setCell ⟨w.heap.size + 1, 2, none⟩ (.slice pa np pc)).setCell ⟨w.heap.size + 1, 3, none⟩ (.slice qa nq qc)).cell? ⟨w.heap.size + 1, 2, none⟩ = some (.slice pa np pc) := AFN.cell 2
      have e3 : ((((wr.setCell ⟨w.heap.size + 1, 0, none⟩ (.string s)).setCell ⟨w.heap.size + 1, 1, none⟩ (.int .i64 first)).setCell ⟨w.heap.size + 1, 2, none⟩ (.slice pa np pc)).setCell ⟨w.heap.size + 1, 3, none⟩ (.slice qa nq qc)).cell? ⟨w.heap.size + 1, 3, none⟩ = some (.slice qa nq qc) := AFN.cell 3
      exact bodyPost_ret (v := .tuple #[.agg #[.string s, .int .i64 first, .slice pa np pc, .slice qa nq qc], .int .i64 0]) (by simp [results, Try.results15, go_sem, e0, e1, e2, e3]) rfl (.inl ⟨HF.out, _, _, rfl, ro1, ro2, BL.out⟩)
end Go.Proofs.Ytjjmbnflhldoeaa
