/- Contract of arith.fromDay. -/
import Derived.Test.YtjekdceicjnamaaFrom0
namespace Go.Proofs.Ytjekdceicjnamaa
set_option linter.unusedVariables false
set_option maxRecDepth 100000
open Go.RowKit

/-- Three boxes, and all that was there. -/
def Tri (w0 : World) (b1 b2 b3 : Nat) (o1 o2 o3 : Obj) (W : World) : Prop := At W b1 o1 ∧ At W b2 o2 ∧ At W b3 o3 ∧ Below w0.heap.size w0 W
theorem Tri.step {w0 W W' : World} {b1 b2 b3 : Nat} {o1 o2 o3 : Obj} (h : Tri w0 b1 b2 b3 o1 o2 o3 W) (hb : Below W.heap.size W W') : Tri w0 b1 b2 b3 o1 o2 o3 W' := ⟨h.1.then_ hb, h.2.1.then_ hb, h.2.2.1.then_ hb, below_then h.2.2.2 hb⟩
theorem Tri.drew {w0 W : World} {b1 b2 b3 : Nat} {o1 o2 o3 : Obj} (h : Tri w0 b1 b2 b3 o1 o2 o3 W) : Tri w0 b1 b2 b3 o1 o2 o3 W.drew := ⟨h.1.drew, h.2.1.drew, h.2.2.1.drew, h.2.2.2.drew⟩
theorem Tri.cells {w0 W : World} {b1 b2 b3 : Nat} {t1 t2 t3 : TypeId} {v0 v1 v2 v3 v4 x y : Value} (h : Tri w0 b1 b2 b3 (.cells #[v0, v1, v2, v3, v4] t1) (.cells #[x] t2) (.cells #[y] t3) W) :
    W.cell? ⟨b1, 0, none⟩ = some v0 ∧ W.cell? ⟨b1, 1, none⟩ = some v1 ∧ W.cell? ⟨b1, 2, none⟩ = some v2 ∧ W.cell? ⟨b1, 3, none⟩ = some v3 ∧ W.cell? ⟨b1, 4, none⟩ = some v4 ∧ W.cell? ⟨b2, 0, none⟩ = some x ∧ W.cell? ⟨b3, 0, none⟩ = some y :=
  ⟨h.1.cell 0, h.1.cell 1, h.1.cell 2, h.1.cell 3, h.1.cell 4, h.2.1.cell 0, h.2.2.1.cell 0⟩
theorem fromDay_closure (w0 w : World) (s : ByteArray) (f c : Int) (a1 a2 : Option Addr) (n1 c1 n2 c2 : Nat) (ms : List Mon) (ls : List Int) (x : Int) (b1 b2 b3 : Nat) (t1 t2 t3 : TypeId) (i : Nat) (hi : i < 20004) (ok : CalOk s f c ms ls) (h : CalAt w0 a1 a2 n1 n2 ms ls) (ht : Tri w0 b1 b2 b3 (.cells #[.string s, .int .i64 f, .int .i64 c, .slice a1 n1 c1, .slice a2 n2 c2] t1) (.cells #[.int .i64 (-10001)] t2) (.cells #[.int .i64 x] t3) w) :
    Calls Try.prog 88 #[.int .i64 (i : Int), .pointer (some ⟨b1, 0, none⟩), .pointer (some ⟨b2, 0, none⟩), .pointer (some ⟨b3, 0, none⟩)] w fun e w' => e = .returned (.bool (decide (x < nyOf (shortOf ms) (longOf ms) f c ls (-10001 + (i : Int))))) ∧ Tri w0 b1 b2 b3 (.cells #[.string s, .int .i64 f, .int .i64 c, .slice a1 n1 c1, .slice a2 n2 c2] t1) (.cells #[.int .i64 (-10001)] t2) (.cells #[.int .i64 x] t3) w' := by
  have H := Lib.hid h; have OK := Lib.hid ok; clear h ok
  obtain ⟨N, hN⟩ : ∃ N, N = nyOf (shortOf ms) (longOf ms) f c ls (-10001 + (i : Int)) := ⟨_, rfl⟩
  rw [← hN]
  have HN := Lib.hid hN; clear hN
  have t0 : IntKind.i64.wrap (-10001 + (i : Int)) = -10001 + (i : Int) := IntWalk.i64_in _ (by omega)
  have y1 : -20000 ≤ -10001 + (i : Int) := by omega
  have y2 : -10001 + (i : Int) ≤ 20000 := by omega
  go_enter Try.func88, Try.ntmps88
  go_wp2_with fail
  (refine region_class (Tri w0 b1 b2 b3 (.cells #[.string s, .int .i64 f, .int .i64 c, .slice a1 n1 c1, .slice a2 n2 c2] t1) (.cells #[.int .i64 (-10001)] t2) (.cells #[.int .i64 x] t3)) (by kernel_rfl) (by kernel_rfl) (ht.drew) ?_; repeat ((first | (refine class_take ?_ (by rfl) ?_ ?_; rotate_left; focus (intro wq hq; ((obtain ⟨x0, x1, x2, x3, x4, x5, x6⟩ := hq.cells)); go_simp; first | done | with_reducible rfl | (first | (go_at_call 89; refine (arith_newYear _ _ _ _ _ _ _ _ _ _ ms ls _ OK.out y1 y2 (H.out.then_ hq.2.2.2)).mono ?_; rw [← HN.out]; rintro e w' ⟨rfl, hb⟩; refine ⟨?_, hq.step hb⟩; with_reducible rfl)))) | refine class_skip (by rfl) ?_); try simp only [Act.put, List.setIfInBounds_toArray, List.set_cons_zero, List.set_cons_succ]))
  refine wpQuiet_nil ?_
  intro W2 tw2
  clear t0
  go_wp2_with fail
  go_ret
  exact ⟨rfl, tw2⟩
/-- The place that the search finds. -/
def Place (ms : List Mon) (ls : List Int) (f c x : Int) (r : Nat) : Prop := r ≤ 20004 ∧ (∀ i : Nat, i < r → nyOf (shortOf ms) (longOf ms) f c ls (-10001 + (i : Int)) ≤ x) ∧ (r < 20004 → x < nyOf (shortOf ms) (longOf ms) f c ls (-10001 + (r : Int)))
theorem place_unique {s : ByteArray} {f c : Int} {ms : List Mon} {ls : List Int} (ok : CalOk s f c ms ls) {x : Int} {r r' : Nat} (h : Place ms ls f c x r) (h1 : r' ≤ 20004) (h2 : ∀ i, r' = i + 1 → ¬ x < nyOf (shortOf ms) (longOf ms) f c ls (-10001 + (i : Int))) (h3 : r' < 20004 → x < nyOf (shortOf ms) (longOf ms) f c ls (-10001 + (r' : Int))) : r' = r := by
  rcases Nat.lt_trichotomy r' r with q | q | q
  · have := h.2.1 r' q; have := h3 (by have := h.1; omega); omega
  · exact q
  · have a := h.2.2 (by omega)
    have b := h2 (r' - 1) (by omega)
    have m := nyOf_lt ok (show -10001 + (r : Int) ≤ -10001 + ((r' - 1 : Nat) : Int) by omega)
    omega
theorem place_exists (ms : List Mon) (ls : List Int) (f c x : Int) : ∃ r, Place ms ls f c x r := by
  have key : ∀ n : Nat, n ≤ 20004 → (∃ r, r < n ∧ (∀ i : Nat, i < r → nyOf (shortOf ms) (longOf ms) f c ls (-10001 + (i : Int)) ≤ x) ∧ x < nyOf (shortOf ms) (longOf ms) f c ls (-10001 + (r : Int))) ∨ (∀ i : Nat, i < n → nyOf (shortOf ms) (longOf ms) f c ls (-10001 + (i : Int)) ≤ x) := by
    intro n
    induction n with
    | zero => intro _; exact .inr fun i hi => by omega
    | succ n ih =>
      intro hn
      rcases ih (by omega) with ⟨r, h1, h2, h3⟩ | h
      · exact .inl ⟨r, by omega, h2, h3⟩
      · by_cases q : x < nyOf (shortOf ms) (longOf ms) f c ls (-10001 + (n : Int))
        · exact .inl ⟨n, by omega, h, q⟩
        · refine .inr fun i hi => ?_
          rcases Nat.lt_or_ge i n with q' | q'
          · exact h i q'
          · have : i = n := by omega
            subst this; omega
  rcases key 20004 (by omega) with ⟨r, h1, h2, h3⟩ | h
  · exact ⟨r, by omega, h2, fun _ => h3⟩
  · exact ⟨20004, by omega, h, fun h => by omega⟩
theorem search_year (w0 w : World) (s : ByteArray) (f c : Int) (a1 a2 : Option Addr) (n1 c1 n2 c2 : Nat) (ms : List Mon) (ls : List Int) (x : Int) (b1 b2 b3 : Nat) (t1 t2 t3 : TypeId) (r : Nat) (hr : Place ms ls f c x r) (ok : CalOk s f c ms ls) (h : CalAt w0 a1 a2 n1 n2 ms ls) (ht : Tri w0 b1 b2 b3 (.cells #[.string s, .int .i64 f, .int .i64 c, .slice a1 n1 c1, .slice a2 n2 c2] t1) (.cells #[.int .i64 (-10001)] t2) (.cells #[.int .i64 x] t3) w) :
    Calls Try.prog 52 #[.int .i64 20004, .func (.func 88) #[] #[.pointer (some ⟨b1, 0, none⟩), .pointer (some ⟨b2, 0, none⟩), .pointer (some ⟨b3, 0, none⟩)]] w fun e w' => e = .returned (.int .i64 (r : Int)) ∧ Below w.heap.size w w' := by
  refine (sort_Search 88 #[.pointer (some ⟨b1, 0, none⟩), .pointer (some ⟨b2, 0, none⟩), .pointer (some ⟨b3, 0, none⟩)] (enters_of Try.func88 (by kernel_rfl) rfl) 20004 (by omega) (fun i => decide (x < nyOf (shortOf ms) (longOf ms) f c ls (-10001 + (i : Int)))) w ?_).mono ?_
  · intro W i hi hbW
    have hT := ht.step hbW
    have hc := fromDay_closure w W s f c a1 a2 n1 c1 n2 c2 ms ls x b1 b2 b3 t1 t2 t3 i hi ok (h.then_ ht.2.2.2) ⟨hT.1, hT.2.1, hT.2.2.1, hbW⟩
    exact hc.mono fun e w' ⟨he, ht'⟩ => ⟨he, ht'.2.2.2⟩
  · rintro e w2 ⟨r', rfl, h1, h2, h3, hb⟩
    have := place_unique ok hr h1 (fun i hi => by have := h2 i hi; simpa using this) (fun hl => by have := h3 hl; simpa using this)
    subst this
    exact ⟨rfl, hb⟩
end Go.Proofs.Ytjekdceicjnamaa
