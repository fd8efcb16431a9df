import Derived.Test.YtlbjmpdonnlieaaGreatDoorLater1
import Derived.Test.YtlbjmpdonnlieaaGreatDoorLater2
import Derived.Test.YtlbjmpdonnlieaaGreatDoorMg5
import Derived.Deep.RegionWith
import Derived.Deep.Cut
import Derived.Deep.LoopGhost
import Derived.Outline
set_option linter.unusedSimpArgs false
namespace Go.Proofs.YtlbjmpdonnlieaaGreatDoor
set_option linter.unusedVariables false
set_option maxRecDepth 100000
open Go.RowKit
def Going (ms : List Mon) (ls : List Int) (c : Int) (u0 up : Bool) (n : Nat) (p : Int × Nat) (R : Option (Int × Nat)) : Prop := (Seek ms ls c u0 p none ∧ R = none) ∨ ∃ q, Seek ms ls c u0 p (some q) ∧ Chain ms ls c up n q R
theorem going_exists {s : ByteArray} {f c : Int} {ms : List Mon} {ls : List Int} (ok : CalOk s f c ms ls) (u0 up : Bool) (n : Nat) (p : Int × Nat) (hp : p.2 < ms.length) : ∃ R, Going ms ls c u0 up n p R := by
  obtain ⟨r, hr⟩ := seek_exists ok u0 _ p hp (Nat.le_refl _)
  cases r with
  | none => exact ⟨none, .inl ⟨hr, rfl⟩⟩
  | some q =>
    obtain ⟨R, hR⟩ := chain_exists ok up n q (seek_in hr hp).1
    exact ⟨R, .inr ⟨q, hr, hR⟩⟩
theorem Going.cases {ms : List Mon} {ls : List Int} {c : Int} {u0 up : Bool} {n : Nat} {p : Int × Nat} {R : Option (Int × Nat)} (h : Going ms ls c u0 up n p R) :
    (¬ InP p ∧ R = none) ∨ (InP p ∧ 0 < lenAt ms ls c p ∧ Chain ms ls c up n p R) ∨ (InP p ∧ lenAt ms ls c p = 0 ∧ Going ms ls c u0 up n (stepP ms.length u0 p) R) := by
  rcases h with ⟨hs, hR⟩ | ⟨q, hs, hR⟩
  · rcases hs.cases with ⟨_, a⟩ | ⟨a, _⟩ | ⟨a, b, d⟩
    · exact .inl ⟨a, hR⟩
    · cases a
    · exact .inr (.inr ⟨a, b, .inl ⟨d, hR⟩⟩)
  · rcases hs.cases with ⟨a, _⟩ | ⟨a, b, d⟩ | ⟨a, b, d⟩
    · cases a
    · injection a with a; subst a; exact .inr (.inl ⟨b, d, hR⟩)
    · exact .inr (.inr ⟨a, b, .inr ⟨q, d, hR⟩⟩)
def laterOut (ms : List Mon) (ls : List Int) (f c : Int) (R : Option (Int × Nat)) (d : Int) : Value := match R with
  | none => .tuple #[.int .i64 0, .int .i64 3]
  | some p => dayOr (dnum ms ls f c p.1 p.2 (min d (lenAt ms ls c p)))
def Lt (w : World) (B : Nat) (oc : Obj) (y m d : Int) (W : World) : Prop := At W w.heap.size oc ∧ DateAt W B y m d ∧ Below w.heap.size w W
section
variable {w W W' : World} {B : Nat} {oc : Obj} {y m d : Int}
theorem Lt.step (h : Lt w B oc y m d W) (hb : Below W.heap.size W W') : Lt w B oc y m d W' := ⟨h.1.then_ hb, At.then_ h.2.1 hb, below_then h.2.2 hb⟩
theorem Lt.drew (h : Lt w B oc y m d W) : Lt w B oc y m d W.drew := ⟨h.1.drew, At.drew h.2.1, h.2.2.drew⟩
theorem Lt.year (h : Lt w B oc y m d W) (hB : w.heap.size < B) (y' : Int) : Lt w B oc y' m d (W.setCell ⟨B, 0, none⟩ (.int .i64 y')) := ⟨h.1.apart (by simp only; omega) _, h.2.1.year y', below_set h.2.2 (by simp only; omega) _⟩
theorem Lt.day (h : Lt w B oc y m d W) (hB : w.heap.size < B) (d' : Int) : Lt w B oc y m d' (W.setCell ⟨B, 2, none⟩ (.int .i64 d')) := ⟨h.1.apart (by simp only; omega) _, h.2.1.day d', below_set h.2.2 (by simp only; omega) _⟩
theorem Lt.all (h : Lt w B oc y m d W) (hB : w.heap.size < B) (y' m' d' : Int) : Lt w B oc y' m' d' (((W.setCell ⟨B, 0, none⟩ (.int .i64 y')).setCell ⟨B, 1, none⟩ (.int .i64 m')).setCell ⟨B, 2, none⟩ (.int .i64 d')) :=
  ⟨At.apart3 h.1 (by omega) _ _ _, At.store3 h.2.1 _ _ _, below_set3 h.2.2 (by omega) _ _ _⟩
theorem Lt.cal {t : TypeId} {v0 v1 v2 v3 v4 : Value} (h : Lt w B (.cells #[v0, v1, v2, v3, v4] t) y m d W) :
    W.cell? ⟨w.heap.size, 0, none⟩ = some v0 ∧ W.cell? ⟨w.heap.size, 1, none⟩ = some v1 ∧ W.cell? ⟨w.heap.size, 2, none⟩ = some v2 ∧ W.cell? ⟨w.heap.size, 3, none⟩ = some v3 ∧ W.cell? ⟨w.heap.size, 4, none⟩ = some v4 :=
  ⟨h.1.cell 0, h.1.cell 1, h.1.cell 2, h.1.cell 3, h.1.cell 4⟩
end
theorem Lt.hold {w W : World} {B : Nat} {y m d : Int} {t : TypeId} {v0 v1 v2 v3 v4 : Value} (h : Lt w B (.cells #[v0, v1, v2, v3, v4] t) y m d W) : W.cell? ⟨w.heap.size, 0, none⟩ = some v0 ∧ W.cell? ⟨w.heap.size, 1, none⟩ = some v1 ∧ W.cell? ⟨w.heap.size, 2, none⟩ = some v2 ∧ W.cell? ⟨w.heap.size, 3, none⟩ = some v3 ∧ W.cell? ⟨w.heap.size, 4, none⟩ = some v4 ∧ W.cell? ⟨B, 0, none⟩ = some (.int .i64 y) ∧ W.cell? ⟨B, 1, none⟩ = some (.int .i64 m) ∧ W.cell? ⟨B, 2, none⟩ = some (.int .i64 d) ∧ W.frozen? ⟨B, 2, none⟩ = false ∧ Lt w B (.cells #[v0, v1, v2, v3, v4] t) y m d W :=
  ⟨h.1.cell 0, h.1.cell 1, h.1.cell 2, h.1.cell 3, h.1.cell 4, At.cell h.2.1 0, At.cell h.2.1 1, At.cell h.2.1 2, At.frozen h.2.1 2, h⟩
theorem Lt.lastOf {w W : World} {B : Nat} {y m d : Int} {t : TypeId} {v0 v1 v2 v3 v4 : Value} (h : W.cell? ⟨w.heap.size, 0, none⟩ = some v0 ∧ W.cell? ⟨w.heap.size, 1, none⟩ = some v1 ∧ W.cell? ⟨w.heap.size, 2, none⟩ = some v2 ∧ W.cell? ⟨w.heap.size, 3, none⟩ = some v3 ∧ W.cell? ⟨w.heap.size, 4, none⟩ = some v4 ∧ W.cell? ⟨B, 0, none⟩ = some (.int .i64 y) ∧ W.cell? ⟨B, 1, none⟩ = some (.int .i64 m) ∧ W.cell? ⟨B, 2, none⟩ = some (.int .i64 d) ∧ W.frozen? ⟨B, 2, none⟩ = false ∧ Lt w B (.cells #[v0, v1, v2, v3, v4] t) y m d W) : Lt w B (.cells #[v0, v1, v2, v3, v4] t) y m d W := h.2.2.2.2.2.2.2.2.2
theorem Lt.keep {w W W' : World} {B : Nat} {y m d : Int} {t : TypeId} {v0 v1 v2 v3 v4 : Value} (h : W.cell? ⟨w.heap.size, 0, none⟩ = some v0 ∧ W.cell? ⟨w.heap.size, 1, none⟩ = some v1 ∧ W.cell? ⟨w.heap.size, 2, none⟩ = some v2 ∧ W.cell? ⟨w.heap.size, 3, none⟩ = some v3 ∧ W.cell? ⟨w.heap.size, 4, none⟩ = some v4 ∧ W.cell? ⟨B, 0, none⟩ = some (.int .i64 y) ∧ W.cell? ⟨B, 1, none⟩ = some (.int .i64 m) ∧ W.cell? ⟨B, 2, none⟩ = some (.int .i64 d) ∧ W.frozen? ⟨B, 2, none⟩ = false ∧ Lt w B (.cells #[v0, v1, v2, v3, v4] t) y m d W) (hb : Below W.heap.size W W') : W'.cell? ⟨w.heap.size, 0, none⟩ = some v0 ∧ W'.cell? ⟨w.heap.size, 1, none⟩ = some v1 ∧ W'.cell? ⟨w.heap.size, 2, none⟩ = some v2 ∧ W'.cell? ⟨w.heap.size, 3, none⟩ = some v3 ∧ W'.cell? ⟨w.heap.size, 4, none⟩ = some v4 ∧ W'.cell? ⟨B, 0, none⟩ = some (.int .i64 y) ∧ W'.cell? ⟨B, 1, none⟩ = some (.int .i64 m) ∧ W'.cell? ⟨B, 2, none⟩ = some (.int .i64 d) ∧ W'.frozen? ⟨B, 2, none⟩ = false ∧ Lt w B (.cells #[v0, v1, v2, v3, v4] t) y m d W' := Lt.hold ((Lt.lastOf h).step hb)
theorem arith_Later_no (w : World) (s : ByteArray) (f c : Int) (a1 a2 : Option Addr) (n1 c1 n2 c2 : Nat) (ms : List Mon) (ls : List Int) (x yy mm : Int) (hs : s.size ≤ 9223372036854775807) (k1 : n1 ≤ c1) (h : CalAt w a1 a2 n1 n2 ms ls) (q : calErr s f c ms ls = 0)
    (hfd : ∀ W, Below w.heap.size w W → Calls Tryz.prog 91 #[.agg #[.string s, .int .i64 f, .int .i64 c, .slice a1 n1 c1, .slice a2 n2 c2], .int .i64 x] W fun e w' => e = .returned (.tuple #[.agg #[.int .i64 0, .int .i64 0, .int .i64 0], .int .i64 3]) ∧ Below W.heap.size W w') :
    Calls Tryz.prog 73 #[.agg #[.string s, .int .i64 f, .int .i64 c, .slice a1 n1 c1, .slice a2 n2 c2], .int .i64 x, .int .i64 yy, .int .i64 mm] w fun e w' =>  e = .returned (.tuple #[.int .i64 0, .int .i64 3]) ∧ Below w.heap.size w w' := by
  have H := Lib.hid h; have HFD := Lib.hid hfd; have HE := Lib.hid q
  clear h hfd q
  go_enter Tryz.func73, Tryz.ntmps73
  go_wp2_with fail
  refine (compile_Check _ _ _ _ _ _ _ _ _ _ ms ls hs k1 (H.out.alloc _).1 (H.out.alloc _).2).mono ?_; rw [HE.out]; rintro e w1 ⟨rfl, hb⟩
  have a0 := (At.new w (.cells #[.string s, .int .i64 f, .int .i64 c, .slice a1 n1 c1, .slice a2 n2 c2] 39)).then_ hb
  have b0 : Below w.heap.size w w1 := by exact bl
  have hl1 := a0.lt
  clear hb
  have x0 := a0.cell 0; have x1 := a0.cell 1; have x2 := a0.cell 2; have x3 := a0.cell 3; have x4 := a0.cell 4; simp at x0 x1 x2 x3 x4
  go_wp2_with fail
  refine (HFD.out _ b0).mono ?_
  rintro e w2 ⟨rfl, hb⟩
  replace a0 := a0.then_ hb
  replace b0 := below_then b0 hb
  have hl2 := a0.lt
  clear hb x0 x1 x2 x3 x4 hl1
  go_wp2_with fail
  go_ret2
  exact ⟨rfl, by exact bl⟩
theorem arith_Later_arg (w : World) (s : ByteArray) (f c : Int) (a1 a2 : Option Addr) (n1 c1 n2 c2 : Nat) (ms : List Mon) (ls : List Int) (x yy mm : Int) (hs : s.size ≤ 9223372036854775807) (k1 : n1 ≤ c1) (h : CalAt w a1 a2 n1 n2 ms ls) (q : calErr s f c ms ls = 0) (y m d : Int) (hr : (inB (-10000) 10000 yy && inB (-10000) 10000 mm) = false)
    (hfd : ∀ W, Below w.heap.size w W → Calls Tryz.prog 91 #[.agg #[.string s, .int .i64 f, .int .i64 c, .slice a1 n1 c1, .slice a2 n2 c2], .int .i64 x] W fun e w' => e = .returned (.tuple #[.agg #[.int .i64 y, .int .i64 m, .int .i64 d], .int .i64 0]) ∧ Below W.heap.size W w') :
    Calls Tryz.prog 73 #[.agg #[.string s, .int .i64 f, .int .i64 c, .slice a1 n1 c1, .slice a2 n2 c2], .int .i64 x, .int .i64 yy, .int .i64 mm] w fun e w' =>  e = .returned (.tuple #[.int .i64 0, .int .i64 1]) ∧ Below w.heap.size w w' := by
  have hr' : inB (-10000) 10000 yy = false ∨ (inB (-10000) 10000 yy = true ∧ inB (-10000) 10000 mm = false) := by
    cases h1 : inB (-10000) 10000 yy <;> simp [h1] at hr ⊢
    exact hr
  clear hr
  rcases hr' with g1 | ⟨g1, g2⟩
  all_goals
    have H := Lib.hid h; have HFD := Lib.hid hfd; have HE := Lib.hid q
    clear h hfd q
    go_enter Tryz.func73, Tryz.ntmps73
    go_wp2_with fail
    refine (compile_Check _ _ _ _ _ _ _ _ _ _ ms ls hs k1 (H.out.alloc _).1 (H.out.alloc _).2).mono ?_; rw [HE.out]; rintro e w1 ⟨rfl, hb⟩
    have a0 := (At.new w (.cells #[.string s, .int .i64 f, .int .i64 c, .slice a1 n1 c1, .slice a2 n2 c2] 39)).then_ hb
    have b0 : Below w.heap.size w w1 := by exact bl
    have hl1 := a0.lt
    clear hb
    have x0 := a0.cell 0; have x1 := a0.cell 1; have x2 := a0.cell 2; have x3 := a0.cell 3; have x4 := a0.cell 4; simp at x0 x1 x2 x3 x4
    go_wp2_with fail
    refine (HFD.out _ b0).mono ?_
    rintro e w2 ⟨rfl, hb⟩
    replace a0 := a0.then_ hb
    replace b0 := below_then b0 hb
    have hl2 := a0.lt
    clear hb x0 x1 x2 x3 x4 hl1
    go_wp2_with fail
    refine (arith_isYear _ _).mono ?_; rw [g1]; rintro e w3 ⟨rfl, rfl⟩
    go_wp2_with fail
    try (refine (arith_isYear _ _).mono ?_; rw [g2]; rintro e w3 ⟨rfl, rfl⟩; go_wp2_with fail)
    go_ret2
    exact ⟨rfl, by exact bl⟩
def St (ms : List Mon) (ls : List Int) (c : Int) (up : Bool) (n1 : Nat) (R : Option (Int × Nat)) (b : Bool) (n : Nat) (y m : Int) : Prop := (b = true ∧ ∃ k : Nat, m = (k : Int) + 1 ∧ k < n1 ∧ InP (y, k) ∧ 0 < lenAt ms ls c (y, k) ∧ Chain ms ls c up n (y, k) R) ∨ (b = false ∧ R = none)
theorem St.of_move {ms : List Mon} {ls : List Int} {c : Int} {up : Bool} {n1 : Nat} {R q : Option (Int × Nat)} {n : Nat} {p : Int × Nat} {y m : Int} {u0 : Bool} (hp : p.2 < ms.length) (hn : ms.length = n1) (hs : Seek ms ls c u0 p q) (hR : (q = none → R = none) ∧ ∀ r, q = some r → Chain ms ls c up n r R) (h : ∀ r, q = some r → y = r.1 ∧ m = (r.2 : Int) + 1) : St ms ls c up n1 R q.isSome n y m := by
  cases q with
  | none => exact .inr ⟨rfl, hR.1 rfl⟩
  | some r =>
    obtain ⟨a, b⟩ := h r rfl
    subst a b
    obtain ⟨x1, x2, x3⟩ := seek_in hs hp
    exact .inl ⟨rfl, r.2, rfl, by omega, x2, x3, hR.2 r rfl⟩
theorem Going.next {ms : List Mon} {ls : List Int} {c : Int} {u0 up : Bool} {n : Nat} {p : Int × Nat} {R : Option (Int × Nat)} (h : Going ms ls c u0 up n p R) : ∃ q, Seek ms ls c u0 p q ∧ (q = none → R = none) ∧ ∀ r, q = some r → Chain ms ls c up n r R := by
  rcases h with ⟨hs, hR⟩ | ⟨q, hs, hR⟩
  · exact ⟨none, hs, fun _ => hR, fun r hr => by cases hr⟩
  · exact ⟨some q, hs, (fun h => by cases h), (fun r hr => by injection hr with hr; subst hr; exact hR)⟩
end Go.Proofs.YtlbjmpdonnlieaaGreatDoor
