import Derived.Test.YtlbjmpdonnlieaaGreatDoorProg
import Derived.WalkKit
import Derived.Deep.QuietTactic
import Derived.BigQuiet
import Derived.Lib.Hide
set_option linter.unusedSimpArgs false
namespace Go.Proofs.YtlbjmpdonnlieaaGreatDoor
set_option linter.unusedVariables false
set_option maxRecDepth 100000
open Go.RowKit
def Drawn (w w' : World) : Prop := ∃ n, w' = w.drewN n
theorem Drawn.refl (w : World) : Drawn w w := ⟨0, rfl⟩
theorem Drawn.drew {w w' : World} (h : Drawn w w') : Drawn w w'.drew := by
  obtain ⟨n, rfl⟩ := h; exact ⟨n + 1, rfl⟩
theorem Drawn.drewN {w w' : World} (h : Drawn w w') (m : Nat) : Drawn w (w'.drewN m) := by
  obtain ⟨n, rfl⟩ := h; exact ⟨n + m, by rw [World.drewN_drewN]⟩
theorem Drawn.trans {a b c : World} (h : Drawn a b) (k : Drawn b c) : Drawn a c := by
  obtain ⟨n, rfl⟩ := h; obtain ⟨m, rfl⟩ := k; exact ⟨n + m, by rw [World.drewN_drewN]⟩
theorem Drawn.below {w w' : World} (h : Drawn w w') (B : Nat) : Below B w w' := by
  obtain ⟨n, rfl⟩ := h; exact ⟨rfl, rfl, rfl, Nat.le_refl _, fun _ _ => rfl⟩
theorem ret_of {v v' : Value} (h : v = v') : Ending.returned v = .returned v' := by rw [h]
theorem ret_int {k : IntKind} {a b : Int} (h : a = b) : Ending.returned (.int k a) = .returned (.int k b) := by rw [h]
theorem ret_bool {a b : Bool} (h : a = b) : Ending.returned (.bool a) = .returned (.bool b) := by rw [h]
theorem ret_ints2 {k l : IntKind} {a b c d : Int} (h : a = b) (h' : c = d) : Ending.returned (.tuple #[.int k a, .int l c]) = .returned (.tuple #[.int k b, .int l d]) := by rw [h, h']
theorem ret_ints3 {k l m : IntKind} {a b c d x y : Int} (h : a = b) (h' : c = d) (h'' : x = y) : Ending.returned (.tuple #[.int k a, .int l c, .int m x]) = .returned (.tuple #[.int k b, .int l d, .int m y]) := by rw [h, h', h'']
theorem below_drewN {B : Nat} {a w : World} (h : Below B a w) (n : Nat) : Below B a (w.drewN n) := ⟨h.os, h.tape, h.output, h.size, h.block⟩
theorem quiet_left {P : Program} {f : FuncId} {args : Array Value} {w : World} {n : Nat} {v : Value}
    (h : Calls P f args (w.drewN n) fun e w' => e = .returned v ∧ w.drewN n = w') : Calls P f args (w.drewN n) fun e w'' => e = .returned v ∧ ∃ m, w'' = w.drewN m :=
  h.mono fun _ _ ⟨he, hm⟩ => ⟨he, n, hm.symm⟩
theorem below_new {a w : World} (h : Below a.heap.size a w) (o : Obj) : Below a.heap.size a (w.alloc o) := h.alloc h.size o
theorem below_set {B : Nat} {a w : World} (h : Below B a w) {p : Addr} (hp : B ≤ p.block) (u : Value) : Below B a (w.setCell p u) := h.setCell hp u
theorem below_then {a b c : World} (h : Below a.heap.size a b) (k : Below b.heap.size b c) : Below a.heap.size a c := h.trans (k.mono h.size)
theorem below_drawn {B : Nat} {a b c : World} (h : Below B a b) (k : Drawn b c) : Below B a c := by
  obtain ⟨n, rfl⟩ := k; exact below_drewN h n
def I64 (n : Int) : Prop := -9223372036854775808 ≤ n ∧ n ≤ 9223372036854775807
abbrev bxR := @Below.refl
abbrev bxD := @Below.drew
abbrev bxN := @below_drewN
abbrev bxA := @below_new
abbrev bxS := @below_set
abbrev bxT := @below_then
abbrev bxW := @below_drawn
theorem bl {p : Prop} (h : p := by
  (repeat' (first | exact bxR _ _ | assumption | refine bxD ?_ | refine bxN ?_ _ | refine bxA ?_ _ | refine bxS ?_ ?_ _ | refine bxT ?_ (by assumption) | refine bxW ?_ (by assumption) | exact Nat.le_refl _ | omega | (simp; done) | (simp; omega)))) : p := h
theorem q1 {p : Prop} (h : p := by
  obtain rfl : C = j := by omega
  have d0 := ay.cell 0; have d1 := ay.cell 1; have d2 := ay.cell 2; have d3 := ay.cell 3; have d4 := ay.cell 4; have d5 := ay.cell 5; have d6 := ay.cell 6; have d7 := ay.cell 7; have d8 := ay.cell 8; simp at d0 d1 d2 d3 d4 d5 d6 d7 d8
  have kk := k0.2.1
  have e0 := kk.cell 0; have e1 := kk.cell 1; have e2 := kk.cell 2; have e3 := kk.cell 3; have e4 := kk.cell 4; have e5 := kk.cell 5; have e6 := kk.cell 6; have e7 := kk.cell 7; have e8 := kk.cell 8; simp at e0 e1 e2 e3 e4 e5 e6 e7 e8
  have z0 := kk.frozen 0; have z1 := kk.frozen 1; have z2 := kk.frozen 2; have z3 := kk.frozen 3; have z4 := kk.frozen 4; have z5 := kk.frozen 5; have z6 := kk.frozen 6; have z7 := kk.frozen 7; have z8 := kk.frozen 8
  clear hct ml2
  go_wp2_with fail
  have ar := kk.store9 (.string s) (.int .i64 f) (.int .i64 (C : Int)) (.slice a1 n1 c1) (.slice a2 n2 c2) (.slice (some ⟨g, 0, none⟩) C C) (.int .i64 (shortOf ms)) (.int .i64 (longOf ms)) (.int .i64 (daysTo (shortOf ms) (longOf ms) ls (C : Int)))
  have ag9 := ag.apart9 (p := w.heap.size + 1) (by omega) (.string s) (.int .i64 f) (.int .i64 (C : Int)) (.slice a1 n1 c1) (.slice a2 n2 c2) (.slice (some ⟨g, 0, none⟩) C C) (.int .i64 (shortOf ms)) (.int .i64 (longOf ms)) (.int .i64 (daysTo (shortOf ms) (longOf ms) ls (C : Int)))
  have b9 := below_set9 k0.2.2 (p := w.heap.size + 1) (by omega) (.string s) (.int .i64 f) (.int .i64 (C : Int)) (.slice a1 n1 c1) (.slice a2 n2 c2) (.slice (some ⟨g, 0, none⟩) C C) (.int .i64 (shortOf ms)) (.int .i64 (longOf ms)) (.int .i64 (daysTo (shortOf ms) (longOf ms) ls (C : Int)))
  clear d0 d1 d2 d3 d4 d5 d6 d7 d8 e0 e1 e2 e3 e4 e5 e6 e7 e8 z0 z1 z2 z3 z4 z5 z6 z7 z8
  generalize World.setCell (World.setCell _ _ _) _ _ = W3 at ar ag9 b9 ⊢
  have e0 := ar.cell 0; have e1 := ar.cell 1; have e2 := ar.cell 2; have e3 := ar.cell 3; have e4 := ar.cell 4; have e5 := ar.cell 5; have e6 := ar.cell 6; have e7 := ar.cell 7; have e8 := ar.cell 8; simp at e0 e1 e2 e3 e4 e5 e6 e7 e8
  exact bodyPost_ret (v := .agg #[.string s, .int .i64 f, .int .i64 (C : Int), .slice a1 n1 c1, .slice a2 n2 c2, .slice (some ⟨g, 0, none⟩) C C, .int .i64 (shortOf ms), .int .i64 (longOf ms), .int .i64 (daysTo (shortOf ms) (longOf ms) ls (C : Int))]) (by simp [results, Tryz.results41, go_sem, e0, e1, e2, e3, e4, e5, e6, e7, e8]) rfl ⟨g, rfl, ag9, b9⟩) : p := h
theorem q2 {p : Prop} (h : p := by
  clear hl hq
  refine (arith_isYear _ _).mono ?_; rw [← HY'.out.1, hy']; rintro e w3 ⟨rfl, rfl⟩
  go_wp2_with fail
  refine (arith_length _ _ _ _ _ _ _ _ _ _ ms ls y' k' x OK.out.cy1 OK.out.cy2 OK.out.sorted r3 (by omega) (by omega) (H.out.then_ mv2.1.2.2) r2 HX.out).mono ?_
  rw [← HML.out]
  rintro e w4 ⟨rfl, hb⟩
  replace mv2 := mv2.step hb
  clear hb e0 e1 e2 x0 x1 x2 x3 x4 z6 g0 g1 g2 fz0 fz1 fz2 hl6
  obtain ⟨e0, e1, e2⟩ := mv2.1.date
  have z6 := mv2.2
  have g0 := z6.cell 0; have g1 := z6.cell 1; have g2 := z6.cell 2; simp at g0 g1 g2
  have fz0 := z6.frozen 0; have fz1 := z6.frozen 1; have fz2 := z6.frozen 2
  have hl6 := z6.lt
  go_wp2_with fail
  have z3 := z6.store3 (.int .i64 y') (.int .i64 ((k' : Int) + 1)) (.int .i64 d)
  have b3 := below_set3 mv2.1.2.2 (p := w.heap.size + 1 + 1) (by omega) (.int .i64 y') (.int .i64 ((k' : Int) + 1)) (.int .i64 d)
  clear e0 e1 e2 g0 g1 g2 fz0 fz1 fz2
  generalize World.setCell (World.setCell _ _ _) _ _ = W5 at z3 b3 ⊢
  have e0 := z3.cell 0; have e1 := z3.cell 1; have e2 := z3.cell 2; simp at e0 e1 e2
  exact bodyPost_ret (v := .tuple #[.agg #[.int .i64 y', .int .i64 ((k' : Int) + 1), .int .i64 d], .bool true]) (by simp [results, Tryz.results120, go_sem, e0, e1, e2]) rfl ⟨MoveOut.some_ HQ.out, b3⟩) : p := h
theorem q3 {p : Prop} (h : p := by
  have d1 : w2.cell? ⟨w.heap.size, 1, none⟩ = some (.int .i64 m) := a2.cell 1
  have d2 : w2.cell? ⟨w.heap.size, 2, none⟩ = some (.slice (some ⟨b, off, none⟩) 2 cap) := a2.cell 2
  obtain ⟨p1, q1, r1⟩ := PQR.out _ b2
  have A2 := Lib.hid a2
  clear hb a2
  go_wp2_with fail
  refine (HC2.out _ b2).mono ?_; rintro e w3 ⟨rfl, hb⟩
  have b3 := below_then b2 hb
  have a3 := A2.out.then_ hb
  clear d0 d1 d2 p1 q1 r1 b2
  have d0 : w3.cell? ⟨w.heap.size, 0, none⟩ = some (.int .i64 6) := a3.cell 0
  have d1 : w3.cell? ⟨w.heap.size, 1, none⟩ = some (.int .i64 m) := a3.cell 1
  clear hb a3
  go_wp2_with fail
  refine (ref_Mul _ _ _ (by omega) (by omega) (by omega) (by omega)).mono ?_; rw [MO.out]; rintro e w8 ⟨rfl, rfl⟩
  go_wp2_with fail
  refine (ref_Num _ _).mono ?_; rw [hi]; rintro e w9 ⟨rfl, rfl⟩
  go_wp2_with fail
  go_ret2
  exact evalPost_of HF.out (by exact bl)) : p := h
theorem q4 {p : Prop} (h : p := by
  have d1 : w2.cell? ⟨w.heap.size, 1, none⟩ = some (.int .i64 m) := a2.cell 1
  have d2 : w2.cell? ⟨w.heap.size, 2, none⟩ = some (.slice (some ⟨b, off, none⟩) 2 cap) := a2.cell 2
  obtain ⟨p1, q1, r1⟩ := PQR.out _ b2
  have A2 := Lib.hid a2
  clear hb a2
  go_wp2_with fail
  refine (HC2.out _ b2).mono ?_; rintro e w3 ⟨rfl, hb⟩
  have b3 := below_then b2 hb
  have a3 := A2.out.then_ hb
  clear d0 d1 d2 p1 q1 r1 b2
  have d0 : w3.cell? ⟨w.heap.size, 0, none⟩ = some (.int .i64 7) := a3.cell 0
  have d1 : w3.cell? ⟨w.heap.size, 1, none⟩ = some (.int .i64 m) := a3.cell 1
  clear hb a3
  go_wp2_with fail
  refine (ref_Div _ _ _ (by omega) (by omega) (by omega) (by omega)).mono ?_; rw [DO.out]; rintro e w8 ⟨rfl, rfl⟩
  go_wp2_with fail
  refine (ref_Num _ _).mono ?_; rw [hi]; rintro e w9 ⟨rfl, rfl⟩
  go_wp2_with fail
  go_ret2
  exact evalPost_of HF.out (by exact bl)) : p := h
theorem q5 {p : Prop} (h : p := by
  have d1 : w2.cell? ⟨w.heap.size, 1, none⟩ = some (.int .i64 m) := a2.cell 1
  have d2 : w2.cell? ⟨w.heap.size, 2, none⟩ = some (.slice (some ⟨b, off, none⟩) 2 cap) := a2.cell 2
  obtain ⟨p1, q1, r1⟩ := PQR.out _ b2
  have A2 := Lib.hid a2
  clear hb a2
  go_wp2_with fail
  refine (HC2.out _ b2).mono ?_; rintro e w3 ⟨rfl, hb⟩
  have b3 := below_then b2 hb
  have a3 := A2.out.then_ hb
  clear d0 d1 d2 p1 q1 r1 b2
  have d0 : w3.cell? ⟨w.heap.size, 0, none⟩ = some (.int .i64 8) := a3.cell 0
  have d1 : w3.cell? ⟨w.heap.size, 1, none⟩ = some (.int .i64 m) := a3.cell 1
  clear hb a3
  go_wp2_with fail
  refine (ref_Div _ _ _ (by omega) (by omega) (by omega) (by omega)).mono ?_; rw [DO.out]; rintro e w8 ⟨rfl, rfl⟩
  go_wp2_with fail
  refine (ref_Num _ _).mono ?_; rw [hi]; rintro e w9 ⟨rfl, rfl⟩
  go_wp2_with fail
  go_ret2
  exact evalPost_of HF.out (by exact bl)) : p := h
theorem q6 {p : Prop} (h : p := by
  have a2 := A0.out.then_ hb
  have d0 : w2.cell? ⟨w.heap.size, 0, none⟩ = some (.int .i64 4) := a2.cell 0
  have d1 : w2.cell? ⟨w.heap.size, 1, none⟩ = some (.int .i64 m) := a2.cell 1
  have d2 : w2.cell? ⟨w.heap.size, 2, none⟩ = some (.slice (some ⟨b, off, none⟩) 2 cap) := a2.cell 2
  obtain ⟨p1, q1, r1⟩ := PQR.out _ b2
  have A2 := Lib.hid a2
  clear hb a2
  go_wp2_with fail
  refine (HC2.out _ b2).mono ?_; rintro e w3 ⟨rfl, hb⟩
  have b3 := below_then b2 hb
  have a3 := A2.out.then_ hb
  clear d0 d1 d2 p1 q1 r1 b2
  have d0 : w3.cell? ⟨w.heap.size, 0, none⟩ = some (.int .i64 4) := a3.cell 0
  have d1 : w3.cell? ⟨w.heap.size, 1, none⟩ = some (.int .i64 m) := a3.cell 1
  clear hb a3
  go_wp2_with fail
  refine (ref_Num _ _).mono ?_; rw [hi]; rintro e w9 ⟨rfl, rfl⟩
  go_wp2_with fail
  go_ret2
  exact evalPost_of HF.out (by exact bl)) : p := h
theorem q7 {p : Prop} (h : p := by
  have a2 := A0.out.then_ hb
  have d0 : w2.cell? ⟨w.heap.size, 0, none⟩ = some (.int .i64 5) := a2.cell 0
  have d1 : w2.cell? ⟨w.heap.size, 1, none⟩ = some (.int .i64 m) := a2.cell 1
  have d2 : w2.cell? ⟨w.heap.size, 2, none⟩ = some (.slice (some ⟨b, off, none⟩) 2 cap) := a2.cell 2
  obtain ⟨p1, q1, r1⟩ := PQR.out _ b2
  have A2 := Lib.hid a2
  clear hb a2
  go_wp2_with fail
  refine (HC2.out _ b2).mono ?_; rintro e w3 ⟨rfl, hb⟩
  have b3 := below_then b2 hb
  have a3 := A2.out.then_ hb
  clear d0 d1 d2 p1 q1 r1 b2
  have d0 : w3.cell? ⟨w.heap.size, 0, none⟩ = some (.int .i64 5) := a3.cell 0
  have d1 : w3.cell? ⟨w.heap.size, 1, none⟩ = some (.int .i64 m) := a3.cell 1
  clear hb a3
  go_wp2_with fail
  refine (ref_Num _ _).mono ?_; rw [hi]; rintro e w9 ⟨rfl, rfl⟩
  go_wp2_with fail
  go_ret2
  exact evalPost_of HF.out (by exact bl)) : p := h
theorem q8 {p : Prop} (h : p := by
  have hy' : inB (-10000) 10000 y' = false := inB_no hi
  have HQ := Lib.hid hq
  clear hi hq
  refine (arith_isYear _ _).mono ?_; rw [← HY'.out.1, hy']; rintro e w3 ⟨rfl, rfl⟩
  go_wp2_with fail
  have z3 := z6.store3 (.int .i64 y') (.int .i64 ((k' : Int) + 1)) (.int .i64 d)
  have b3 := below_set3 mv2.1.2.2 (p := w.heap.size + 1 + 1) (by omega) (.int .i64 y') (.int .i64 ((k' : Int) + 1)) (.int .i64 d)
  clear e0 e1 e2 g0 g1 g2 fz0 fz1 fz2
  generalize World.setCell (World.setCell _ _ _) _ _ = W5 at z3 b3 ⊢
  have e0 := z3.cell 0; have e1 := z3.cell 1; have e2 := z3.cell 2; simp at e0 e1 e2
  exact bodyPost_ret (v := .tuple #[.agg #[.int .i64 y', .int .i64 ((k' : Int) + 1), .int .i64 d], .bool false]) (by simp [results, Tryz.results120, go_sem, e0, e1, e2]) rfl ⟨MoveOut.none_ HQ.out, b3⟩) : p := h
theorem q9 {p : Prop} (h : p := by
  have d1 : w2.cell? ⟨w.heap.size, 1, none⟩ = some (.int .i64 m) := a2.cell 1
  have d2 : w2.cell? ⟨w.heap.size, 2, none⟩ = some (.slice (some ⟨b, off, none⟩) 2 cap) := a2.cell 2
  obtain ⟨p1, q1, r1⟩ := PQR.out _ b2
  have A2 := Lib.hid a2
  clear hb a2
  go_wp2_with fail
  refine (HC2.out _ b2).mono ?_; rintro e w3 ⟨rfl, hb⟩
  have b3 := below_then b2 hb
  have a3 := A2.out.then_ hb
  clear d0 d1 d2 p1 q1 r1 b2
  have d0 : w3.cell? ⟨w.heap.size, 0, none⟩ = some (.int .i64 10) := a3.cell 0
  have d1 : w3.cell? ⟨w.heap.size, 1, none⟩ = some (.int .i64 m) := a3.cell 1
  clear hb a3
  go_wp2_with fail
  refine (ref_yesB _ _).mono ?_; rintro e w8 ⟨rfl, rfl⟩
  go_wp2_with fail
  refine (ref_Num _ _).mono ?_; rw [hi]; rintro e w9 ⟨rfl, rfl⟩
  go_wp2_with fail
  go_ret2
  exact evalPost_of HF.out (by exact bl)) : p := h
theorem q10 {p : Prop} (h : p := by
  have d1 : w2.cell? ⟨w.heap.size, 1, none⟩ = some (.int .i64 m) := a2.cell 1
  have d2 : w2.cell? ⟨w.heap.size, 2, none⟩ = some (.slice (some ⟨b, off, none⟩) 2 cap) := a2.cell 2
  obtain ⟨p1, q1, r1⟩ := PQR.out _ b2
  have A2 := Lib.hid a2
  clear hb a2
  go_wp2_with fail
  refine (HC2.out _ b2).mono ?_; rintro e w3 ⟨rfl, hb⟩
  have b3 := below_then b2 hb
  have a3 := A2.out.then_ hb
  clear d0 d1 d2 p1 q1 r1 b2
  have d0 : w3.cell? ⟨w.heap.size, 0, none⟩ = some (.int .i64 9) := a3.cell 0
  have d1 : w3.cell? ⟨w.heap.size, 1, none⟩ = some (.int .i64 m) := a3.cell 1
  clear hb a3
  go_wp2_with fail
  refine (ref_yesB _ _).mono ?_; rintro e w8 ⟨rfl, rfl⟩
  go_wp2_with fail
  refine (ref_Num _ _).mono ?_; rw [hi]; rintro e w9 ⟨rfl, rfl⟩
  go_wp2_with fail
  go_ret2
  exact evalPost_of HF.out (by exact bl)) : p := h
theorem q11 {p : Prop} (h : p := by
  have HF := Lib.hid (HN.out.trans ((congrArg finVal HR.out).trans (finVal_in rfl hi)))
  clear i1 i2
  go_enter Tryz.func85, Tryz.ntmps85
  go_wp2_with fail
  refine HC.out.mono ?_; rintro e w2 ⟨rfl, hb⟩
  have b2 := below_then B0.out hb
  have a2 := A0.out.then_ hb
  have d0 : w2.cell? ⟨w.heap.size, 0, none⟩ = some (.int .i64 11) := a2.cell 0
  have d1 : w2.cell? ⟨w.heap.size, 1, none⟩ = some (.int .i64 m) := a2.cell 1
  have d2 : w2.cell? ⟨w.heap.size, 2, none⟩ = some (.slice (some ⟨b, off, none⟩) 1 cap) := a2.cell 2
  clear hb a2
  go_wp2_with fail
  refine (ref_yesB _ _).mono ?_; rintro e w8 ⟨rfl, rfl⟩
  go_wp2_with fail
  refine (ref_Num _ _).mono ?_; rw [hi]; rintro e w9 ⟨rfl, rfl⟩
  go_wp2_with fail
  go_ret2
  exact evalPost_of HF.out (by exact bl)) : p := h
theorem q12 {p : Prop} (h : p := by
  have HF := Lib.hid (HN.out.trans ((congrArg finVal HR.out).trans (finVal_over rfl hi)))
  clear hi'
  go_enter Tryz.func85, Tryz.ntmps85
  go_wp2_with fail
  refine HC.out.mono ?_; rintro e w2 ⟨rfl, hb⟩
  have b2 := below_then B0.out hb
  have a2 := A0.out.then_ hb
  have d0 : w2.cell? ⟨w.heap.size, 0, none⟩ = some (.int .i64 11) := a2.cell 0
  have d1 : w2.cell? ⟨w.heap.size, 1, none⟩ = some (.int .i64 m) := a2.cell 1
  have d2 : w2.cell? ⟨w.heap.size, 2, none⟩ = some (.slice (some ⟨b, off, none⟩) 1 cap) := a2.cell 2
  clear hb a2
  go_wp2_with fail
  refine (ref_yesB _ _).mono ?_; rintro e w8 ⟨rfl, rfl⟩
  go_wp2_with fail
  refine (ref_Num _ _).mono ?_; rw [hi]; rintro e w9 ⟨rfl, rfl⟩
  go_wp2_with fail
  go_ret2
  exact evalPost_of HF.out (by exact bl)) : p := h
theorem q13 {p : Prop} (h : p := by
  obtain ⟨p1, q1, r1⟩ := PQR.out _ b2
  have A2 := Lib.hid a2
  clear hb a2
  go_wp2_with fail
  refine (HC2.out _ b2).mono ?_; rintro e w3 ⟨rfl, hb⟩
  have b3 := below_then b2 hb
  have a3 := A2.out.then_ hb
  clear d0 d1 d2 p1 q1 r1 b2
  have d0 : w3.cell? ⟨w.heap.size, 0, none⟩ = some (.int .i64 12) := a3.cell 0
  have d1 : w3.cell? ⟨w.heap.size, 1, none⟩ = some (.int .i64 m) := a3.cell 1
  clear hb a3
  go_wp2_with fail
  refine (ref_yesB _ _).mono ?_; rintro e w8 ⟨rfl, rfl⟩
  go_wp2_with fail
  refine (ref_yesB _ _).mono ?_; rintro e w8 ⟨rfl, rfl⟩
  go_wp2_with fail
  refine (ref_Num _ _).mono ?_; rw [hi]; rintro e w9 ⟨rfl, rfl⟩
  go_wp2_with fail
  go_ret2
  exact evalPost_of HF.out (by exact bl)) : p := h
theorem q14 {p : Prop} (h : p := by
  obtain ⟨p1, q1, r1⟩ := PQR.out _ b2
  have A2 := Lib.hid a2
  clear hb a2
  go_wp2_with fail
  refine (HC2.out _ b2).mono ?_; rintro e w3 ⟨rfl, hb⟩
  have b3 := below_then b2 hb
  have a3 := A2.out.then_ hb
  clear d0 d1 d2 p1 q1 r1 b2
  have d0 : w3.cell? ⟨w.heap.size, 0, none⟩ = some (.int .i64 13) := a3.cell 0
  have d1 : w3.cell? ⟨w.heap.size, 1, none⟩ = some (.int .i64 m) := a3.cell 1
  clear hb a3
  go_wp2_with fail
  refine (ref_yesB _ _).mono ?_; rintro e w8 ⟨rfl, rfl⟩
  go_wp2_with fail
  refine (ref_yesB _ _).mono ?_; rintro e w8 ⟨rfl, rfl⟩
  go_wp2_with fail
  refine (ref_Num _ _).mono ?_; rw [hi]; rintro e w9 ⟨rfl, rfl⟩
  go_wp2_with fail
  go_ret2
  exact evalPost_of HF.out (by exact bl)) : p := h
theorem q15 {p : Prop} (h : p := by
  obtain ⟨v0, vs0, d0, ds0, p0, q0, hargs, rfl, rfl, h0, r0⟩ := trodAll_cons hA
  obtain ⟨rfl, rfl, rfl⟩ := trodAll_nil r0
  obtain rfl : args = #[v0] := by cases args; simp_all
  obtain ⟨rfl, rfl⟩ := trodVars_none hV
  have lt0 : ∀ x ∈ p0, x.block < W.heap.size := by obtain ⟨m, hm⟩ := h0; exact DataW.trod_lt m _ _ _ hm
  clear hA0 hval0
  refine (walk W (hval 0 24 v0 rfl rfl) h0 hL2 hsh).mono fun e W' ⟨he, bel⟩ => ?_
  subst he
  exact ⟨_, rfl, _, _, _, [], _, [], hW', trodAll_mk1 (shut_bool Tryz.underlying4 _), (trodAll_cons_mk (Below.trod laidOut (by kernel_rfl) (of_decide_eq_true (by kernel_rfl)) h0 bel lt0) trodAll_mk0), rfl, bel.frame _, fun h => by cases h⟩) : p := h
theorem q16 {p : Prop} (h : p := by
  go_enter Tryz.func85, Tryz.ntmps85
  go_wp2_with fail
  refine HC.out.mono ?_; rintro e w2 ⟨rfl, hb⟩
  have b2 := below_then B0.out hb
  have a2 := A0.out.then_ hb
  have d0 : w2.cell? ⟨w.heap.size, 0, none⟩ = some (.int .i64 3) := a2.cell 0
  have d1 : w2.cell? ⟨w.heap.size, 1, none⟩ = some (.int .i64 m) := a2.cell 1
  have d2 : w2.cell? ⟨w.heap.size, 2, none⟩ = some (.slice (some ⟨b, off, none⟩) 1 cap) := a2.cell 2
  clear hb a2
  go_wp2_with fail
  refine (ref_Num _ _).mono ?_; rw [hi]; rintro e w9 ⟨rfl, rfl⟩
  go_wp2_with fail
  go_ret2
  exact evalPost_of HF.out (by exact bl)) : p := h
theorem q17 {p : Prop} (h : p := by
  have hDlt : ∀ b, D b → b < w3.drew.heap.size := fun b hb => (T4.out.2 b hb).2
  have no : ∀ b, b < w3.drew.heap.size → ¬ D b → ¬ (D b ∨ E b ∨ b = w5.heap.size) := fun b hb hnd h => by
    rcases h with h | h | h
    · exact hnd h
    · have := (hTY.2 b h).1; omega
    · omega
  exact .inl ⟨.node k2 0 [X, Y], _, l2, (TG.node2 (T4.out.one hk5h.out hgw) (hTY.weak hs3) (by omega) hk2).set3 (no bX hXM hDX) _ _ _, no bR hRM hDR, no bX hXM hDX, ((H4.out.trans hQ).then_ (below_new (Below.refl _ _) _)).store3 HBX.out HBB2.out hgX _ _ _, by rw [HR.out, hR]; rfl⟩) : p := h
theorem q18 {p : Prop} (h : p := by
  have hnb : ∀ b, v.ownBlock = some b → tb ≤ b := fun b e => by have := (own_lt H8.out e).1; omega
  rw [HBD18.out]
  obtain ⟨qA, qm, qc, qo, qa⟩ := H18.out.bad
  exact ⟨HC18.out, ⟨qA, qm, qc, qo, ((qa.then_ hW1).grow HGR.out (H3.out g (.inl CX.out.gG)).2.2).apart (p := ⟨tb, 6, none⟩) (by show g ≠ tb; have := CX.out.gt; omega) _⟩, ((H18.out.ln.then_ hW1).grow HGR.out (H3.out lb (.inl CX.out.lG)).2.2).apart (p := ⟨tb, 6, none⟩) (by show lb ≠ tb; have := CX.out.lt; omega) _, grow_bel H18.out.bel (Nat.le_of_lt hbz) hW1 HGR.out hnb 6 _⟩) : p := h
theorem q19 {p : Prop} (h : p := by
  have HR := Lib.hid (show RR = .bad 4 by rw [HG2.out, if_neg he])
  have hne := str_ne Y (by rw [hY, tkS_len]; exact List.length_pos_iff.2 he)
  clear he hY HG2
  go_wp2_with fail
  refine CK.out.mono ?_
  rintro e w8 ⟨rfl, hb⟩
  have R8 := Lib.hid (R5.out.then_ hb)
  clear hb
  have CF := Lib.hid (rd_fail 4 R8.out.rd)
  go_wp2_with fail
  refine CF.out.mono ?_
  rintro e w9 ⟨rfl, hf⟩
  have F9 := Lib.hid (R8.out.failed hf htg)
  clear hf
  go_wp2_with fail
  go_ret
  exact (by rw [HR.out]; exact ⟨rfl, by decide, F9.out⟩)) : p := h
theorem q20 {p : Prop} (h : p := by
  generalize World.alloc w _ = W0 at o0 ⊢
  have O0 := Lib.hid o0.2
  have o1 := o0.1
  clear o0
  have d0 := o1.cell 0; have d1 := o1.cell 1; have d2 := o1.cell 2; have d3 := o1.cell 3; simp at d0 d1 d2 d3
  clear o1
  go_wp2_with (go_at_call 70; (first | with_reducible refine (C0.out _).mono ?_ | with_reducible refine (C1.out _).mono ?_ | with_reducible refine (C2.out _).mono ?_ | with_reducible refine (C3.out _).mono ?_); rintro e w' ⟨rfl, rfl⟩)
  go_ret
  exact ⟨rfl, O0.out⟩) : p := h
theorem q21 {p : Prop} (h : p := by
  generalize World.alloc w _ = W0 at o0 ⊢
  have O0 := Lib.hid o0.2
  have o1 := o0.1
  clear o0
  have d0 := o1.cell 0; have d1 := o1.cell 1; have d2 := o1.cell 2; have d3 := o1.cell 3; simp at d0 d1 d2 d3
  clear o1
  go_wp2_with (go_at_call 15; (first | with_reducible refine (C0.out _).mono ?_ | with_reducible refine (C1.out _).mono ?_ | with_reducible refine (C2.out _).mono ?_ | with_reducible refine (C3.out _).mono ?_); rintro e w' ⟨rfl, rfl⟩)
  go_ret
  exact ⟨rfl, O0.out⟩) : p := h
theorem q22 {p : Prop} (h : p := by
  generalize World.alloc w _ = W0 at o0 ⊢
  have O0 := Lib.hid o0.2
  have o1 := o0.1
  clear o0
  have d0 := o1.cell 0; have d1 := o1.cell 1; have d2 := o1.cell 2; have d3 := o1.cell 3; have d4 := o1.cell 4; simp at d0 d1 d2 d3 d4
  clear o1
  go_wp2_with ((first | (go_at_call 64; with_reducible refine (C0.out _).mono ?_) | (go_at_call 64; with_reducible refine (C1.out _).mono ?_)); rintro e w' ⟨rfl, rfl⟩)
  go_ret
  exact ⟨ret_bool (by rw [HO.out] <;> rfl), O0.out⟩) : p := h
theorem q23 {p : Prop} (h : p := by
  have hneg : p ≤ 0 := HS.out.2 (by simp [ha, hb])
  have HF := Lib.hid (show mulOut a b = .tuple #[.int .i64 (-(lo : Int)), .int .i64 0] by rw [HO.out, if_pos (by have := HP.out; omega), show p = -(lo : Int) by have := HP.out; omega])
  have nb := back_neg (lo : Int) (by omega) (by omega)
  clear HO
  go_wp2_with fail
  go_ret2
  exact ⟨by rw [HF.out]; exact ret_ints2 (back_neg _ (by omega) (by omega)) rfl, rfl⟩) : p := h
theorem q24 {p : Prop} (h : p := by
  have hy' : inB (-10000) 10000 y = false := inB_no hi
  have hfin := Lib.hid (show laterOut ms ls f C R d = .tuple #[.int .i64 0, .int .i64 3] by rw [hn]; rfl)
  clear hn hi hgo
  go_wp2_with fail
  refine (ref_In _ _ _ _).mono ?_; rw [hy']; rintro e w3 ⟨rfl, rfl⟩
  go_wp2_with fail
  refine (ref_In _ _ _ _).mono ?_; rw [hy']; rintro e w3 ⟨rfl, rfl⟩
  go_wp2_with fail
  go_ret2
  exact ⟨by rw [hfin.out]; rfl, lt.2.2⟩) : p := h
theorem q25 {p : Prop} (h : p := by
  generalize World.alloc w _ = W0 at o0 ⊢
  have O0 := Lib.hid o0.2
  have o1 := o0.1
  clear o0
  have d0 := o1.cell 0; have d1 := o1.cell 1; have d2 := o1.cell 2; have d3 := o1.cell 3; have d4 := o1.cell 4; simp at d0 d1 d2 d3 d4
  clear o1
  go_wp2_with ((first | (go_at_call 64; with_reducible refine (C0.out _).mono ?_)); rintro e w' ⟨rfl, rfl⟩)
  go_ret
  exact ⟨ret_bool (by rw [HO.out] <;> rfl), O0.out⟩) : p := h
theorem q26 {p : Prop} (h : p := by
  have hbq : ((lo : Int) == 9223372036854775808) = false := by simp; omega
  have HF := Lib.hid (show mulOut a b = .tuple #[.int .i64 (lo : Int), .int .i64 0] by rw [HO.out, if_pos (by have := HP.out; omega), show p = (lo : Int) by have := HP.out; omega])
  have hlt : lo ≤ 9223372036854775807 := by omega
  clear HO he
  go_wp2_with fail
  go_ret2
  exact ⟨ret_of (by rw [HF.out]; rfl), rfl⟩) : p := h
theorem q27 {p : Prop} (h : p := by
  clear hk HRR
  go_wp2_with fail
  refine CT.out.mono ?_
  rintro e w3 ⟨rfl, hw⟩
  have R3 := Lib.hid (R2.out.went hw htg)
  clear hw R2 CT
  have CF := Lib.hid (rd_fail 4 R3.out.rd)
  go_wp2_with fail
  refine CF.out.mono ?_
  rintro e w4 ⟨rfl, hf⟩
  have F4 := Lib.hid (R3.out.failed hf htg)
  clear hf R3 CF
  go_wp2_with fail
  go_ret
  exact (by rw [HR.out]; exact ⟨rfl, by decide, F4.out⟩)) : p := h
theorem q28 {p : Prop} (h : p := by
  go_wp2_with fail
  refine CT.out.mono ?_
  rintro e w1 ⟨rfl, hb1⟩
  go_wp2_with fail
  refine (CL.out _).mono ?_
  rintro e w2 ⟨rfl, hb2⟩
  have H2 := Lib.hid (((QWent.refl H.out).then_ hb1).then_ hb2)
  go_wp2_with fail
  refine (rf_fail 4 H2.out.1).mono ?_
  rintro e w3 ⟨rfl, hw⟩
  have HW := Lib.hid hw; clear hw
  go_wp2_with fail
  go_ret
  exact ⟨rfl, by decide, H2.out.failed HW.out⟩) : p := h
theorem q29 {p : Prop} (h : p := by
  go_enter Tryz.func178, Tryz.ntmps178
  go_wp2_with (go_at_call 175; refine (CT.out).mono ?_; rintro e w1 ⟨rfl, hw⟩)
  have HW := Lib.hid hw; clear hw
  have CN := Lib.hid (rd_natural HW.out.1 hS)
  rw [e] at CN
  refine CN.out.mono ?_
  rintro e' w2 ⟨rfl, hc, hf⟩
  have HF := Lib.hid hf; clear hf
  go_wp2_with fail
  go_ret2
  exact ⟨rfl, hc, HW.out.failed HF.out⟩) : p := h
theorem q30 {p : Prop} (h : p := by
  go_enter Tryz.func178, Tryz.ntmps178
  go_wp2_with (go_at_call 175; refine (CT.out).mono ?_; rintro e w1 ⟨rfl, hw⟩)
  have HW := Lib.hid hw; clear hw
  have CN := Lib.hid (rd_natural HW.out.1 hS)
  rw [e] at CN
  refine CN.out.mono ?_
  rintro e' w2 ⟨rfl, hf⟩
  have HF := Lib.hid hf; clear hf
  go_wp2_with fail
  go_ret2
  exact ⟨rfl, HW.out.trans HF.out⟩) : p := h
theorem q31 {p : Prop} (h : p := by
  go_enter Tryz.func177, Tryz.ntmps177
  go_wp2_with (go_at_call 181; refine (CT.out).mono ?_; rintro e w1 ⟨rfl, hb⟩)
  have CF := Lib.hid (rd_fail 4 (H.out.then_ hb))
  refine CF.out.mono ?_
  rintro e w2 ⟨rfl, hw⟩
  have HW := Lib.hid hw; clear hw
  go_wp2_with fail
  go_ret2
  exact ⟨rfl, by decide, HW.out.1, (OneKept.of_below hb).trans HW.out.2⟩) : p := h
theorem q32 {p : Prop} (h : p := by
  go_enter Tryz.func204, Tryz.ntmps204
  go_wp2_with (go_at_call 181; refine (CT.out).mono ?_; rintro e w1 ⟨rfl, hb⟩)
  have CF := Lib.hid (rd_fail 4 (H.out.then_ hb))
  refine CF.out.mono ?_
  rintro e w2 ⟨rfl, hw⟩
  have HW := Lib.hid hw; clear hw
  go_wp2_with fail
  go_ret2
  exact ⟨rfl, by decide, HW.out.1, (OneKept.of_below hb).trans HW.out.2⟩) : p := h
theorem q33 {p : Prop} (h : p := by
  have hq1 := below_then hq0 hb
  replace o1 := o1.then_ hb
  clear d0 d1 d2 d3 d4 hb
  have d0 := o1.cell 0; have d1 := o1.cell 1; have d2 := o1.cell 2; have d3 := o1.cell 3; have d4 := o1.cell 4; simp at d0 d1 d2 d3 d4
  go_wp2_with (go_at_call 34; refine (CF2.out _ hq1).mono ?_; rintro e w2 ⟨rfl, hb⟩)
  go_ret2
  exact ⟨rfl, hb⟩) : p := h
theorem q34 {p : Prop} (h : p := by
  have a1 := a0.then_ hb
  have b1 := below_then b0 hb
  clear d0 d1 d2 d3 d4 hb a0 b0
  have d0 := a1.cell 0; have d1 := a1.cell 1; have d2 := a1.cell 2; have d3 := a1.cell 3; have d4 := a1.cell 4; simp at d0 d1 d2 d3 d4
  go_wp2_with (go_at_call 68; refine (CP.out _ b1).mono ?_; rintro e w2 ⟨rfl, hb⟩)
  go_ret2
  exact ⟨rfl, hb⟩) : p := h
theorem q35 {p : Prop} (h : p := by
  obtain ⟨k, a, b, s, ks, ad, n, c, rfl, h1, h2, h3⟩ := open_Feast o0 h0
  obtain ⟨m, hm⟩ : ∃ m : Int, W.cell? ⟨1, 0, none⟩ = some (.int .i64 m) := Tryz.laysLaysMn146.s1_3 W hsh
  exact core W m hm (cat_lvl rfl hL.tail.tail.tail.tail.tail.tail) (cat_sgn rfl hL.tail.tail.tail.tail.tail.tail.tail) k a b s ks ad n c h3 h1 h2) : p := h
theorem q36 {p : Prop} (h : p := by
  generalize World.alloc w _ = W0 at o0 ⊢
  have O0 := Lib.hid o0.2
  have o1 := o0.1
  clear o0
  have d0 := o1.cell 0; have d1 := o1.cell 1; have d2 := o1.cell 2; have d3 := o1.cell 3; have d4 := o1.cell 4; simp at d0 d1 d2 d3 d4
  clear o1
  go_wp2_with fail
  go_ret
  exact ⟨ret_bool (by rw [HO.out] <;> rfl), O0.out⟩) : p := h
theorem q37 {p : Prop} (h : p := by
  have hy' : inB (-10000) 10000 Y = false := inB_no hi
  have hfin := Lib.hid (show laterOut ms ls f c R d = .tuple #[.int .i64 0, .int .i64 3] by rw [hn]; rfl)
  clear hn hi
  refine (arith_isYear _ _).mono ?_; rw [hy']; rintro e w3 ⟨rfl, rfl⟩
  go_wp2_with fail
  go_ret2
  exact ⟨by rw [hfin.out]; rfl, lt.2.2⟩) : p := h
theorem q38 {p : Prop} (h : p := by
  obtain rfl : Y = ⟨#[]⟩ := by rw [hY, he]
  clear he hY HG2
  go_wp2_with fail
  refine CK.out.mono ?_
  rintro e w8 ⟨rfl, hb⟩
  have R8 := Lib.hid (R5.out.then_ hb)
  clear hb
  go_wp2_with fail
  go_ret
  exact (by rw [HR.out]; exact ⟨rfl, ⟨_, (fun h => by first | rfl | (simp at h)), R8.out.tr⟩, R8.out.bel⟩)) : p := h
theorem q39 {p : Prop} (h : p := by
  go_wp2_with fail
  refine CT.out.mono ?_
  rintro e w1 ⟨rfl, hb1⟩
  go_wp2_with fail
  refine (CL.out _).mono ?_
  rintro e w2 ⟨rfl, hb2⟩
  go_wp2_with fail
  refine (rf_fail_bad 4 ((H.out.then_ hb1).then_ hb2) HC.out).mono ?_
  rintro e w3 ⟨rfl, hw⟩
  go_wp2_with fail
  go_ret
  exact ⟨rfl, by exact bl⟩) : p := h
theorem q40 {p : Prop} (h : p := by
  have hbq : ((lo : Int) == 9223372036854775808) = true := by simp; omega
  have HF := Lib.hid (show mulOut a b = .tuple #[.int .i64 0, .int .i64 14] by rw [HO.out, if_neg (by have := HP.out; omega)])
  clear HO he
  go_wp2_with fail
  go_ret2
  exact ⟨ret_of (by rw [HF.out]; rfl), rfl⟩) : p := h
theorem q41 {p : Prop} (h : p := by
  have d1 : w3.cell? ⟨w.heap.size, 1, none⟩ = some (.int .i64 m) := a3.cell 1
  clear hb a3
  go_wp2_with fail
  refine (ref_Div _ _ _ (by omega) (by omega) (by omega) (by omega)).mono ?_; rw [divOut_0]; rintro e w8 ⟨rfl, rfl⟩
  go_wp2_with fail
  go_ret2
  exact evalPost_of HF.out b3) : p := h
theorem q42 {p : Prop} (h : p := by
  have e1 : ((4 : Int) == (L : Int)) = true := by simpa using h1
  have gz : 5 < wr.heap.size := World.block_lt_of_cell? _ _ c1
  clear h0 hb
  have e2 : (L : Int) = 4 := h1.symm
  clear h1
  go_wp2_with fail
  go_ret2
  exact ⟨by rw [HN.out]; rfl, by have := HB.out; exact bl⟩) : p := h
theorem q43 {p : Prop} (h : p := by
  have e1 : ((5 : Int) == (L : Int)) = true := by simpa using h1
  have gz : 5 < wr.heap.size := World.block_lt_of_cell? _ _ c1
  clear h0 hb
  have e2 : (L : Int) = 5 := h1.symm
  clear h1
  go_wp2_with fail
  go_ret2
  exact ⟨by rw [HN.out]; rfl, by have := HB.out; exact bl⟩) : p := h
theorem q44 {p : Prop} (h : p := by
  have e1 : ((3 : Int) == (L : Int)) = true := by simpa using h1
  have gz : 5 < wr.heap.size := World.block_lt_of_cell? _ _ c1
  clear h0 hb
  have e2 : (L : Int) = 3 := h1.symm
  clear h1
  go_wp2_with fail
  go_ret2
  exact ⟨by rw [HN.out]; rfl, by have := HB.out; exact bl⟩) : p := h
theorem q45 {p : Prop} (h : p := by
  rw [hi] at CI
  clear hi hq2
  go_wp2_with (first | (go_at_call 74; refine (line_Is _ _).mono ?_; rw [hd]; rintro e w' ⟨rfl, rfl⟩) | (go_at_call 43; refine (CI.out _).mono ?_; rintro e w' ⟨rfl, ⟨nd, rfl⟩⟩))
  go_ret2
  exact ⟨by rw [hp.out]; rfl, below_drewN B3.out _⟩) : p := h
theorem q46 {p : Prop} (h : p := by
  rw [hi'] at CI
  clear hi'
  clear hi hq2
  go_wp2_with (first | (go_at_call 28; refine (ref_Day _ _).mono ?_; rw [hd]; rintro e w' ⟨rfl, rfl⟩) | (go_at_call 20; refine (CI.out _).mono ?_; rintro e w' ⟨rfl, rfl⟩))
  go_ret2
  exact ⟨by rw [hp.out]; rfl, B3.out⟩) : p := h
theorem q47 {p : Prop} (h : p := by
  have HF := Lib.hid (HN.out.trans ((congrArg finVal HR.out).trans (finVal_in rfl hi)))
  clear i1 i2
  go_wp2_with fail
  refine (ref_Num _ _).mono ?_; rw [hi]; rintro e w9 ⟨rfl, rfl⟩
  go_wp2_with fail
  go_ret2
  exact evalPost_of HF.out (by exact bl)) : p := h
theorem q48 {p : Prop} (h : p := by
  have HF := Lib.hid (HN.out.trans ((congrArg finVal HR.out).trans (finVal_over rfl hi)))
  clear hi'
  go_wp2_with fail
  refine (ref_Num _ _).mono ?_; rw [hi]; rintro e w9 ⟨rfl, rfl⟩
  go_wp2_with fail
  go_ret2
  exact evalPost_of HF.out (by exact bl)) : p := h
theorem q49 {p : Prop} (h : p := by
  obtain ⟨D, x, n, a, m, d, base, h1, _⟩ := h
  refine ⟨?_, h1.frozen i, h1.lt⟩
  rw [h1.cell i]
  rcases (show i = 0 ∨ i = 1 ∨ i = 2 ∨ i = 3 ∨ i = 4 ∨ i = 5 ∨ i = 6 by omega) with rfl | rfl | rfl | rfl | rfl | rfl | rfl <;> exact ⟨_, rfl⟩) : p := h
theorem q50 {p : Prop} (h : p := by
  have := own_kept (w' := w4.setCell ⟨tb, 6, none⟩ (.slice (some ⟨g4, 0, none⟩) (t.ms.length + 1) cap4)) hown (fun b hb => Below.heap_setCell w4 ⟨tb, 6, none⟩ _ b (by have := (own_lt hown hb).1; show b ≠ tb; omega))
  simpa using this) : p := h
theorem q51 {p : Prop} (h : p := by
  have q2' : (exprErr (.node k m ks) != 0) = true := by simpa using q2
  generalize exprErr (.node k m ks) = E at hfin q2' ⊢
  rintro e w2 ⟨rfl, hb⟩
  clear q2
  go_wp2_with fail
  go_ret
  exact ⟨ret_int (by rw [hfin.out]), below_then b0 hb⟩) : p := h
theorem q52 {p : Prop} (h : p := by
  have hex' : (ex != 0) = true := by simpa using hex
  clear hex
  go_enter Tryz.func85, Tryz.ntmps85
  go_wp2_with (go_at_call 85; refine HC.out.mono ?_; rintro e w2 ⟨rfl, hb⟩)
  go_ret2
  exact evalPost_of HF.out (below_then B0.out hb)) : p := h
theorem q53 {p : Prop} (h : p := by
  rw [if_neg h2] at hs
  obtain ⟨g2, hg2⟩ := hs
  refine ⟨g + g2 + 1, fun f hf => ?_⟩
  obtain ⟨f', rfl⟩ : ∃ f', f = f' + 1 := ⟨f - 1, by omega⟩
  rw [expP, if_neg h2, if_neg (by omega), hg f' (by omega)]
  exact hg2 f' (by omega)) : p := h
theorem q54 {p : Prop} (h : p := by
  rw [show dayOr D = .tuple #[.int .i64 0, .int .i64 3] from if_neg (by rw [hd]; simp)] at hfin hcon
  refine hcon.mono ?_
  rintro e w8 ⟨rfl, hb⟩
  go_wp2_with fail
  go_ret2
  exact ⟨by rw [hfin.out]; rfl, below_then lt7.2.2 hb⟩) : p := h
theorem q55 {p : Prop} (h : p := by
  rw [show dayOr D = .tuple #[.int .i64 0, .int .i64 3] from if_neg (by rw [hd]; simp)] at hfin hcon
  refine hcon.mono ?_
  rintro e w8 ⟨rfl, hb⟩
  go_wp2_with fail
  go_ret2
  exact ⟨by rw [hfin.out]; rfl, below_then lt.2.2 hb⟩) : p := h
theorem q56 {p : Prop} (h : p := by
  rw [← List.append_assoc, items_flat]
  have e : ln + (q ++ [((Tree.node k2 m2 ks2, a2, n2, c2, d + 1) : Item)]).length = ln + q.length + 1 := by first | (simp; done) | (simp; omega)
  rw [e, ← hql]; exact OWN'.out) : p := h
theorem q57 {p : Prop} (h : p := by
  go_wp2_with fail
  refine (whole_Div _ _ _ (by omega) (by omega) (by omega) (by omega)).mono ?_; rw [divOut_0]; rintro e w1 ⟨rfl, ⟨nd, rfl⟩⟩
  go_wp2_with fail
  go_ret2
  exact applyPost_of HR.out (by exact bl)) : p := h
theorem q58 {p : Prop} (h : p := by
  rw [show dayOr D = .tuple #[.int .i64 D, .int .i64 0] from if_pos hd] at hfin hcon
  refine hcon.mono ?_
  rintro e w8 ⟨rfl, hb⟩
  go_wp2_with fail
  go_ret2
  exact ⟨by rw [hfin.out]; rfl, below_then lt7.2.2 hb⟩) : p := h
theorem q59 {p : Prop} (h : p := by
  go_wp2_with fail
  refine (whole_Div _ _ _ (by omega) (by omega) (by omega) (by omega)).mono ?_; rw [HD.out]; rintro e w1 ⟨rfl, ⟨nd, rfl⟩⟩
  go_wp2_with fail
  go_ret2
  exact applyPost_of HR.out (by exact bl)) : p := h
theorem q60 {p : Prop} (h : p := by
  rw [show dayOr D = .tuple #[.int .i64 D, .int .i64 0] from if_pos hd] at hfin hcon
  refine hcon.mono ?_
  rintro e w8 ⟨rfl, hb⟩
  go_wp2_with fail
  go_ret2
  exact ⟨by rw [hfin.out]; rfl, below_then lt.2.2 hb⟩) : p := h
theorem q61 {p : Prop} (h : p := by
  clear h1 h2 h3 h4
  go_enter Tryz.func158, Tryz.ntmps158
  go_wp2_with fail
  refine (ref_In _ _ _ _).mono ?_; rw [hb]; rintro e w1 ⟨rfl, rfl⟩
  go_wp2_with fail
  go_ret
  exact ⟨ret_int (by rw [hr.out]), rfl⟩) : p := h
theorem q62 {p : Prop} (h : p := by
  exact ⟨⟨A, m, cc, o, ha.apart (p := ⟨tb, i, none⟩) (by show g ≠ tb; have := cx.gt; omega) u⟩, h3.apart (p := ⟨tb, i, none⟩) (by show lb ≠ tb; have := cx.lt; omega) u, below_set h4 (Nat.le_refl _) u⟩) : p := h
theorem q63 {p : Prop} (h : p := by
  have a := Int.mul_le_mul_of_nonpos_left (show q ≤ 0 by omega) e1
  have b := Int.mul_nonneg_of_nonpos_of_nonpos (show q ≤ 0 by omega) (show -(C : Int) ≤ 0 by omega)
  rw [Int.mul_neg] at b
  omega) : p := h
theorem q64 {p : Prop} (h : p := by
  go_wp2_with fail
  go_ret
  exact ⟨ret_int (by rw [hfin.out]), by (repeat' (first | exact Drawn.refl _ | assumption | refine Drawn.drew ?_ | refine Drawn.drewN ?_ _ | exact ⟨_, rfl⟩))⟩) : p := h
theorem q65 {p : Prop} (h : p := by
  have ha : At w4 tb (trO t k n a m d v) := (h1.then_ hW).grow hgrow (nown tb (by omega))
  have := ha.store 6 (.slice (some ⟨g4, 0, none⟩) (t.ms.length + 1) cap4)
  simpa using this) : p := h
theorem q66 {p : Prop} (h : p := by
  have ho := Lib.hid (inB_no (l := -10000) (h := 10000) (x := x) (by omega))
  go_enter Tryz.func118, Tryz.ntmps118
  go_wp2_with fail
  go_ret
  exact ⟨ret_bool (by rw [ho.out]), rfl⟩) : p := h
theorem q67 {p : Prop} (h : p := by
  go_enter Tryz.func110, Tryz.ntmps110
  go_wp2_with (go_at_call 143; refine CG.out.mono ?_; rintro e w' ⟨rfl, ⟨nd, rfl⟩⟩)
  go_ret
  exact ⟨ret_int (by rw [ho.out]), by exact bl⟩) : p := h
theorem q68 {p : Prop} (h : p := by
  go_wp2_with fail
  refine (rule_truth _ _).mono ?_; rintro e w1 ⟨rfl, rfl⟩
  go_wp2_with fail
  go_ret2
  exact applyPost_of (by rw [HR.out, HA2.out, HB2.out]; rfl) (by exact bl)) : p := h
theorem q69 {p : Prop} (h : p := by
  have ho := Lib.hid (inB_no (l := 0) (h := 400) (x := x) (by omega))
  go_enter Tryz.func163, Tryz.ntmps163
  go_wp2_with fail
  go_ret
  exact ⟨ret_bool (by rw [ho.out]), rfl⟩) : p := h
theorem q70 {p : Prop} (h : p := by
  clear hR hE hl
  go_enter Tryz.func148, Tryz.ntmps148
  go_wp2_with fail
  refine C.out.mono ?_
  rintro e w1 ⟨rfl, hb⟩
  go_wp2_with fail
  go_ret
  exact ⟨by rw [HR.out]; rfl, hb⟩) : p := h
theorem q71 {p : Prop} (h : p := by
  injection e2 with e3
  injection e with q1 q2 q3
  have e4 := congrArg Array.toList e3
  simp at e4
  obtain ⟨r1, r2, r3, r4, r5⟩ := e4
  subst r1 r2 r3 r4 r5 q1 q2 q3
  exact hv) : p := h
theorem q72 {p : Prop} (h : p := by
  have HR := Lib.hid hrz; clear hrz
  go_wp2_with fail
  go_ret3
  exact ⟨by rw [(hdn.out (by omega)).1 HR.out]; exact ret_ints3 rfl (by have := HR.out; omega) rfl, rfl⟩) : p := h
theorem q73 {p : Prop} (h : p := by
  rw [List.mem_singleton] at hx
  subst hx
  exact ⟨hk2, q1, q2, by first | (simp only; done) | (simp only; omega), by first | (simp only; done) | (simp only; omega)⟩) : p := h
theorem q74 {p : Prop} (h : p := by
  unfold SP
  rw [if_neg (by omega)]
  refine ⟨g1 + 1, fun f hf => ?_⟩
  obtain ⟨f', rfl⟩ : ∃ f', f = f' + 1 := ⟨f - 1, by omega⟩
  rw [prun, hg1 f' (by omega)]; rfl) : p := h
theorem q75 {p : Prop} (h : p := by
  go_wp2_with (go_at_call 51; refine (ref_Div _ _ _ h1 h2 (by omega) h4).mono ?_; rw [divOut_pos _ _ h3]; rintro e w' ⟨rfl, rfl⟩)
  go_ret
  exact ⟨rfl, rfl⟩) : p := h
theorem q76 {p : Prop} (h : p := by
  obtain ⟨hil, hie⟩ := List.getElem?_eq_some_iff.1 HXX.out
  rw [List.reverse_append, List.drop_eq_getElem_cons hil, hie, List.map_cons, ← HQ.out]; rfl) : p := h
theorem q77 {p : Prop} (h : p := by
  go_wp2_with fail
  refine (ref_Day _ _).mono ?_; rw [hdd]; rintro e w3 ⟨rfl, rfl⟩
  go_wp2_with fail
  go_ret2
  exact ⟨by rw [ho.out]; rfl, tw.2.2⟩) : p := h
theorem q78 {p : Prop} (h : p := by
  go_wp2_with fail
  refine (line_Is _ _).mono ?_; rw [hd]; rintro e w3 ⟨rfl, rfl⟩
  go_wp2_with fail
  go_ret2
  exact ⟨by rw [ho.out]; rfl, tw.2.2⟩) : p := h
theorem q79 {p : Prop} (h : p := by
  go_wp2_with fail
  refine (rule_truth _ _).mono ?_; rintro e w1 ⟨rfl, rfl⟩
  go_wp2_with fail
  go_ret2
  exact applyPost_of HR.out (by exact bl)) : p := h
theorem q80 {p : Prop} (h : p := by
  go_enter Tryz.func148, Tryz.ntmps148
  go_wp2_with fail
  refine C.out.mono ?_
  rintro e w1 ⟨rfl, hb⟩
  go_wp2_with fail
  go_ret
  exact ⟨rfl, hb⟩) : p := h
theorem q81 {p : Prop} (h : p := by
  generalize World.setCell w4 _ _ = W5 at R5 ⊢
  clear F4 x0 x1 x2
  go_wp2_with fail
  go_ret
  exact (by rw [HR.out]; exact ⟨rfl, hc, R5.out⟩)) : p := h
theorem q82 {p : Prop} (h : p := by
  go_wp2
  go_ret3
  exact ⟨ret_ints3 (by have := hk.out; have := H.out; omega) (by have := hk.out; have := H.out; omega) rfl, ⟨_, rfl⟩⟩) : p := h
theorem q83 {p : Prop} (h : p := by
  have ha2 : (x == 0) = !(x != 0) := by simp [bne]
  have hb2 : (z == 0) = !(z != 0) := by simp [bne]
  rw [ha] at ha2; rw [hb0] at hb2) : p := h
theorem q84 {p : Prop} (h : p := by
  rw [str_list, str_list]
  have : X.data.toList ≠ T.data.toList := fun e => hne (by rw [← str_eta X, e, str_eta])
  simpa using this) : p := h
theorem q85 {p : Prop} (h : p := by
  go_wp2_with (go_at_call 187; refine HAP.out.mono ?_; rintro e w2 ⟨rfl, hb⟩)
  go_ret2
  exact evalPost_of HF.out (below_then b0 hb)) : p := h
theorem q86 {p : Prop} (h : p := by
  exact .inr ⟨c, hc, by rw [HR.out, hR]; rfl, ((H4.out.failed hF).then_ (below_new (Below.refl _ _) _)).store3 HBX.out hgX _ _ _⟩) : p := h
theorem q87 {p : Prop} (h : p := by
  go_wp2_with (go_at_call 89; refine (whole_Div_pos _ _ _ h1 h2 hb hb2).mono ?_; rintro e w' ⟨rfl, hd⟩)
  go_ret
  exact ⟨rfl, hd⟩) : p := h
theorem q88 {p : Prop} (h : p := by
  go_wp2_with fail
  refine wp_loop_rounds 1 ?_; rw [rounds_succ]
  go_wp2_with fail
  go_ret2
  exact ⟨by rw [hfin.out]; rfl, lt.2.2⟩) : p := h
theorem q89 {p : Prop} (h : p := by
  clear h1 h2 h3 h4
  go_enter Tryz.func210, Tryz.ntmps210
  go_wp2_with fail
  go_ret
  exact ⟨ret_int (by rw [ho.out]; rfl), rfl⟩) : p := h
theorem q90 {p : Prop} (h : p := by
  rw [← hW]
  exact Kept.drew ⟨(((At.new w _).alloc _).alloc _).alloc _, ((At.new1 w _ _).alloc _).alloc _, by exact bl⟩) : p := h
theorem q91 {p : Prop} (h : p := by
  go_enter Tryz.func186, Tryz.ntmps186
  go_wp2_with fail
  go_ret
  rw [← HW.out]
  exact exprPost_of HF.out AX'.out OK'.out) : p := h
theorem q92 {p : Prop} (h : p := by
  rw [show x.data.toList.length = x.size from by show x.data.toList.length = x.data.size; simp] at this
  exact this) : p := h
theorem q93 {p : Prop} (h : p := by
  have a := Int.mul_le_mul_of_nonneg_left e1 hq0
  have b := Int.mul_nonneg hq0 (show 0 ≤ (C : Int) by omega)
  omega) : p := h
theorem q94 {p : Prop} (h : p := by
  (repeat' (first | exact hk1 | refine OneKept.drewN ?_ _ | refine OneKept.drew ?_ | refine OneKept.set ?_ _ _))) : p := h
theorem q95 {p : Prop} (h : p := by
  have := str_get S i h
  obtain ⟨hl, e⟩ := List.getElem?_eq_some_iff.1 this
  rw [List.drop_eq_getElem_cons hl, e]) : p := h
theorem q96 {p : Prop} (h : p := by
  go_enter Tryz.func110, Tryz.ntmps110
  go_wp2_with fail
  go_ret
  exact ⟨ret_int (by rw [ho.out]), Below.refl _ _⟩) : p := h
theorem q97 {p : Prop} (h : p := by
  go_wp2_with (go_at_call 15; refine (ref_In _ _ _ _).mono ?_; rintro e w' ⟨rfl, rfl⟩)
  go_ret
  exact ⟨rfl, rfl⟩) : p := h
theorem q98 {p : Prop} (h : p := by
  clear hz
  go_enter Tryz.func129, Tryz.ntmps129
  go_wp2_with fail
  go_ret
  exact ⟨ret_bool (by rw [ho.out]), rfl⟩) : p := h
theorem q99 {p : Prop} (h : p := by
  go_enter Tryz.func210, Tryz.ntmps210
  go_wp2_with fail
  go_ret
  exact ⟨ret_int (by rw [ho.out]; rfl), rfl⟩) : p := h
theorem q100 {p : Prop} (h : p := by
  have e : (l' ++ q).length = ln + q.length := by rw [List.length_append, HLN.out]
  rw [e]; exact OWN.out) : p := h
theorem q101 {p : Prop} (h : p := by
  clear hX e hg h0
  go_enter Tryz.func125, Tryz.ntmps125
  go_wp2_with fail
  go_ret
  exact ⟨rfl, by exact bl⟩) : p := h
theorem q102 {p : Prop} (h : p := by
  clear hX e hg h0
  go_enter Tryz.func156, Tryz.ntmps156
  go_wp2_with fail
  go_ret
  exact ⟨rfl, by exact bl⟩) : p := h
theorem q103 {p : Prop} (h : p := by
  go_enter Tryz.func160, Tryz.ntmps160
  go_wp2_with fail
  go_ret
  exact ⟨ret_bool (by rw [ho.out]), rfl⟩) : p := h
theorem q104 {p : Prop} (h : p := by
  obtain ⟨f', rfl, hf'⟩ := succ_ f (g2 + g3) hf
  rw [er, hg2 f' (by omega)]
  exact hg3 f' (by omega)) : p := h
theorem q105 {p : Prop} (h : p := by
  go_wp2_with fail
  go_ret
  exact ⟨ret_int (by rw [HF.out]), below_drewN (below_new HB.out _) _⟩) : p := h
theorem q106 {p : Prop} (h : p := by
  rw [show ((j + 1 : Nat) : Int) = (j : Int) + 1 by omega, hds.out]
  exact (ay.store 8 _).drew) : p := h
theorem q107 {p : Prop} (h : p := by
  clear h1
  go_wp2_with fail
  go_ret2
  exact ⟨by rw [HN.out]; rfl, by have := HB.out; exact bl⟩) : p := h
theorem q108 {p : Prop} (h : p := by
  go_wp2_with fail
  go_ret3
  exact ⟨ret_of (by rw [hov.out (by omega) (by omega)]; rfl), rfl⟩) : p := h
theorem q109 {p : Prop} (h : p := by
  rw [HN.out]
  congr 1
  unfold itemsOf
  rw [List.reverse_append, List.map_append, HQ.out]; rfl) : p := h
theorem q110 {p : Prop} (h : p := by
  go_enter Tryz.func148, Tryz.ntmps148
  go_wp2_with fail
  go_ret
  exact ⟨rfl, Below.refl _ _⟩) : p := h
theorem q111 {p : Prop} (h : p := by
  go_enter Tryz.func123, Tryz.ntmps123
  go_wp2_with fail
  go_ret
  exact ⟨rfl, by exact bl⟩) : p := h
theorem q112 {p : Prop} (h : p := by
  rw [← hc]; simp; intro e; exact h32 (UInt8.toNat_inj.1 (by show c.toNat = 32; omega))) : p := h
theorem q113 {p : Prop} (h : p := by
  go_wp2_with fail
  go_ret
  exact ⟨by rw [HN.out]; rfl, by have := HB.out; exact bl⟩) : p := h
theorem q114 {p : Prop} (h : p := by
  go_enter Tryz.func158, Tryz.ntmps158
  go_wp2_with fail
  go_ret
  exact ⟨rfl, rfl⟩) : p := h
theorem q115 {p : Prop} (h : p := by
  clear hown
  go_wp2_with fail
  go_ret
  exact ⟨ret_int (by rw [HF.out]), HB.out⟩) : p := h
theorem q116 {p : Prop} (h : p := by
  first | (simp [Value.ownBlock]; done) | (simp [Value.ownBlock]; exact hgb)) : p := h
theorem q117 {p : Prop} (h : p := by
  exact (by rw [HR.out]; exact EPost.good_ T9.out ⟨F2.out.rd, F2.out.kept⟩)) : p := h
theorem q118 {p : Prop} (h : p := by
  (intro w hSw; (try dsimp only at hSw); go_simp; try with_reducible rfl)) : p := h
theorem q119 {p : Prop} (h : p := by
  have := congrArg List.length HQ.out
  simp at this
  have := HKL.out
  omega) : p := h
end Go.Proofs.YtlbjmpdonnlieaaGreatDoor
