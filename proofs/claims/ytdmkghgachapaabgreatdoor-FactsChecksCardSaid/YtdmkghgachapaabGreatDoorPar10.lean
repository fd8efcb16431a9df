import Derived.Test.YtdmkghgachapaabGreatDoorMgF
set_option linter.unusedSimpArgs false
namespace Go.Proofs.YtdmkghgachapaabGreatDoor
set_option linter.unusedVariables false
set_option maxRecDepth 100000
open Go.RowKit Go.Shelf
def monC (m : PMon) : List Value := [.string (tkS m.1), .int .i64 m.2.1, .int .i64 m.2.2]
abbrev trO (t : PRule) (k n : Int) (a : Option Addr) (m d : Nat) (v : Value) : Obj := .cells #[.string (tkS t.nm), .int .i64 t.ep, .int .i64 t.cy, .int .i64 k, .int .i64 n, .slice a m d, v] 113
def Tr (w : World) (tb g : Nat) (t : PRule) (v : Value) : Prop := ∃ (D : Nat → Prop) (k n : Int) (a : Option Addr) (m d base : Nat),
  At w tb (trO t k n a m d v) ∧ TG (tb + 1) D w t.lp (.agg #[.int .i64 k, .int .i64 n, .slice a m d]) ∧ ¬ D g ∧ tb + 1 ≤ base ∧ base ≤ w.heap.size ∧ (∀ b, D b → b < base) ∧ v.ownBlock ≠ some g ∧ w.ownsRow base 128 3 v t.ms.length (t.ms.flatMap monC)
theorem own_kept {w w' : World} {base : Nat} {e : TypeId} {size : Nat} {v : Value} {n : Nat} {xs : List Value} (h : w.ownsRow base e size v n xs) (hb : ∀ b, v.ownBlock = some b → w'.heap[b]? = w.heap[b]?) : w'.ownsRow base e size v n xs := by
  refine ⟨h.1, ?_⟩
  rcases h.2 with h0 | ⟨g, cap, cur, hv, hg, hat, rest⟩
  · exact .inl h0
  · exact .inr ⟨g, cap, cur, hv, hg, (hb g (by rw [hv]; rfl)).trans hat, rest⟩
theorem own_lt {w : World} {base : Nat} {e : TypeId} {size : Nat} {v : Value} {n : Nat} {xs : List Value} (h : w.ownsRow base e size v n xs) {b : Nat} (hb : v.ownBlock = some b) : base ≤ b ∧ b < w.heap.size := by
  rcases h.2 with ⟨rfl, _⟩ | ⟨g, cap, cur, rfl, hg, hat, rest⟩
  · cases hb
  · cases hb; exact ⟨hg, (show At w g _ from hat).lt⟩
theorem Tr.one {w w' : World} {tb g : Nat} {t : PRule} {v : Value} (h : Tr w tb g t v) (k : OneKept g w w') (hg : tb < g) : Tr w' tb g t v := by
  obtain ⟨D, x, n, a, m, d, base, h1, h2, h3, h4, h5, h6, h7, h8⟩ := h
  exact ⟨D, x, n, a, m, d, base, h1.oneKept k (by omega), h2.keep k.size (fun b hb => k.block b (h2.2 b hb).2 (by rintro rfl; exact h3 hb)), h3, h4, Nat.le_trans h5 k.size, h6, h7, own_kept h8 fun b hb => k.block b (own_lt h8 hb).2 (by rintro rfl; exact h7 hb)⟩
theorem Tr.then_ {w w' : World} {tb g : Nat} {t : PRule} {v : Value} (h : Tr w tb g t v) (k : Below w.heap.size w w') : Tr w' tb g t v := by
  obtain ⟨D, x, n, a, m, d, base, h1, h2, h3, h4, h5, h6, h7, h8⟩ := h
  exact ⟨D, x, n, a, m, d, base, h1.then_ k, h2.then_ k, h3, h4, Nat.le_trans h5 k.size, h6, h7, own_kept h8 fun b hb => k.block b (own_lt h8 hb).2⟩
theorem Tr.lt {w : World} {tb g : Nat} {t : PRule} {v : Value} (h : Tr w tb g t v) : tb < w.heap.size := by
  obtain ⟨D, x, n, a, m, d, base, h1, _⟩ := h
  exact h1.lt
theorem Tr.fresh {w : World} {tb g g' : Nat} {t : PRule} {v : Value} (h : Tr w tb g t v) (hg : w.heap.size ≤ g') : Tr w tb g' t v := by
  obtain ⟨D, x, n, a, m, d, base, h1, h2, h3, h4, h5, h6, h7, h8⟩ := h
  exact ⟨D, x, n, a, m, d, base, h1, h2, (fun h => by have := (h2.2 g' h).2; omega), h4, h5, h6, (fun h => by have := (own_lt h8 h).2; omega), h8⟩
theorem Tr.field {w : World} {tb g : Nat} {t t' : PRule} {v : Value} (h : Tr w tb g t v) (i : Nat) (u : Value) (hl : t'.lp = t.lp) (hm : t'.ms = t.ms)
    (hs : ∀ k n a m d, #[.string (tkS t.nm), .int .i64 t.ep, .int .i64 t.cy, .int .i64 k, .int .i64 n, .slice a m d, v].setIfInBounds i u = #[.string (tkS t'.nm), .int .i64 t'.ep, .int .i64 t'.cy, .int .i64 k, .int .i64 n, .slice a m d, v]) : Tr (w.setCell ⟨tb, i, none⟩ u) tb g t' v := by
  obtain ⟨D, x, n, a, m, d, base, h1, h2, h3, h4, h5, h6, h7, h8⟩ := h
  have hne : ∀ b, b ≠ tb → (w.setCell ⟨tb, i, none⟩ u).heap[b]? = w.heap[b]? := fun b hb => Below.heap_setCell w ⟨tb, i, none⟩ u b hb
  have hsz : (w.setCell ⟨tb, i, none⟩ u).heap.size = w.heap.size := by simp [World.setCell]
  refine ⟨D, x, n, a, m, d, base, ?_, ?_, h3, h4, by omega, h6, h7, ?_⟩
  · have := h1.store i u
    rw [hs x n a m d] at this
    exact this
  · rw [hl]; exact h2.keep (by omega) fun b hb => hne b (by have := (h2.2 b hb).1; omega)
  · rw [hm]; exact own_kept h8 fun b hb => hne b (by have := (own_lt h8 hb).1; omega)
theorem Tr.leap {w : World} {tb g : Nat} {t : PRule} {v : Value} (h : Tr w tb g t v) (hn : t.ms = []) (hv : v = .slice none 0 0) {E : Nat → Prop} {y : Tree} {k n : Int} {a : Option Addr} {m d : Nat} (hE : TG (tb + 1) E w y (.agg #[.int .i64 k, .int .i64 n, .slice a m d])) (hg : ¬ E g) :
    Tr (((w.setCell ⟨tb, 3, none⟩ (.int .i64 k)).setCell ⟨tb, 4, none⟩ (.int .i64 n)).setCell ⟨tb, 5, none⟩ (.slice a m d)) tb g { t with lp := y } v := by
  obtain ⟨D, x, n', a', m', d', base, h1, h2, h3, h4, h5, h6, h7, h8⟩ := h
  have hsz : (((w.setCell ⟨tb, 3, none⟩ (.int .i64 k)).setCell ⟨tb, 4, none⟩ (.int .i64 n)).setCell ⟨tb, 5, none⟩ (.slice a m d)).heap.size = w.heap.size := by simp [World.setCell]
  have nE : ¬ E tb := fun h => by have := (hE.2 tb h).1; omega
  refine ⟨E, k, n, a, m, d, w.heap.size, ?_, ((hE.set nE 3 _).set nE 4 _).set nE 5 _, hg, by have := h1.lt; omega, by omega, fun b hb => (hE.2 b hb).2, by rw [hv]; simp [Value.ownBlock], ?_⟩
  · have := ((h1.store 3 (.int .i64 k)).store 4 (.int .i64 n)).store 5 (.slice a m d)
    simpa using this
  · rw [hv]
    show World.ownsRow _ _ _ _ _ t.ms.length (t.ms.flatMap monC)
    rw [hn]
    exact World.ownsRow_nil _ _ _ _
theorem glob_below {g tb : Nat} {w W : World} (h : Glob g w) (k : Below tb w W) (h1 : 5 < tb) (h2 : 6 < tb) : Glob g W := by
  have key : ∀ {n : String} {cs : Array Value} {b : Nat}, w.var? Tryz.prog n = some cs → Tryz.prog.globalNamed n = some b → b < tb → W.var? Tryz.prog n = some cs := by
    intro n cs b hv hg hb
    unfold World.var? at hv ⊢
    rw [hg] at hv ⊢
    simp only [Option.bind_some] at hv ⊢
    rw [k.block b hb]; exact hv
  exact ⟨key h.1 (b := 6) (by kernel_rfl) h2, key h.2.1 (b := 5) (by kernel_rfl) h1, h.2.2.1, h.2.2.2⟩
structure RS (g : Nat) (S : ByteArray) (l : List Tok) (tb : Nat) (t : PRule) (v : Value) (w W : World) : Prop where
  tr : Tr W tb g t v
  rd : RdAt W g S l 0
  bel : Below tb w W
theorem bel_one {g tb : Nat} {w W W' : World} (h : Below tb w W) (k : OneKept g W W') (hg : tb < g) (ht : tb ≤ W.heap.size) : Below tb w W' := k.below h (by omega) ht
theorem RS.went {g tb : Nat} {S : ByteArray} {l l' : List Tok} {t : PRule} {v : Value} {w W W' : World} (h : RS g S l tb t v w W) (k : Went g S l' 0 W W') (hg : tb < g) : RS g S l' tb t v w W' := ⟨h.tr.one k.2 hg, k.1, bel_one h.bel k.2 hg (Nat.le_of_lt h.tr.lt)⟩
theorem RS.then_ {g tb : Nat} {S : ByteArray} {l : List Tok} {t : PRule} {v : Value} {w W W' : World} (h : RS g S l tb t v w W) (k : Below W.heap.size W W') : RS g S l tb t v w W' := ⟨h.tr.then_ k, h.rd.then_ k, h.bel.trans (k.mono (Nat.le_of_lt h.tr.lt))⟩
structure FS (g : Nat) (c : Int) (tb : Nat) (w W : World) : Prop where
  bad : BadAt W g c
  bel : Below tb w W
theorem RS.failed {g tb : Nat} {S : ByteArray} {l : List Tok} {t : PRule} {v : Value} {c : Int} {w W W' : World} (h : RS g S l tb t v w W) (k : Failed g c W W') (hg : tb < g) : FS g c tb w W' := ⟨k.1, bel_one h.bel k.2 hg (Nat.le_of_lt h.tr.lt)⟩
theorem RS.field {g tb : Nat} {S : ByteArray} {l : List Tok} {t t' : PRule} {v : Value} {w W : World} (h : RS g S l tb t v w W) (hg : tb < g) (i : Nat) (u : Value) (hl : t'.lp = t.lp) (hm : t'.ms = t.ms)
    (hs : ∀ k n a m d, #[.string (tkS t.nm), .int .i64 t.ep, .int .i64 t.cy, .int .i64 k, .int .i64 n, .slice a m d, v].setIfInBounds i u = #[.string (tkS t'.nm), .int .i64 t'.ep, .int .i64 t'.cy, .int .i64 k, .int .i64 n, .slice a m d, v]) : RS g S l tb t' v w (W.setCell ⟨tb, i, none⟩ u) := by
  obtain ⟨a, n, hp, ha⟩ := h.rd
  exact ⟨h.tr.field i u hl hm hs, ⟨a, n, hp, ha.apart (p := ⟨tb, i, none⟩) (by show g ≠ tb; omega) u⟩, below_set h.bel (Nat.le_refl _) u⟩
theorem FS.field {g tb : Nat} {c : Int} {w W : World} (h : FS g c tb w W) (hg : tb < g) (i : Nat) (u : Value) : FS g c tb w (W.setCell ⟨tb, i, none⟩ u) := by
  obtain ⟨S, a, n, o, ha⟩ := h.bad
  exact ⟨⟨S, a, n, o, ha.apart (p := ⟨tb, i, none⟩) (by show g ≠ tb; omega) u⟩, below_set h.bel (Nat.le_refl _) u⟩
def RowPost (g tb : Nat) (v0 : Value) (w : World) : Res PRule → Ending → World → Prop
  | .stuck, _, _ => False
  | .bad c, e, w' => e = .returned (.bool false) ∧ c ≠ 0 ∧ FS g c tb w w'
  | .good t, e, w' => e = .returned (.bool true) ∧ (∃ v, (t.ms = [] → v = v0) ∧ Tr w' tb g t v) ∧ Below tb w w'
theorem tr_cell {w : World} {tb g : Nat} {t : PRule} {v : Value} (h : Tr w tb g t v) (i : Nat) (hi : i < 7) : (∃ x, w.cell? ⟨tb, i, none⟩ = some x) ∧ w.frozen? ⟨tb, i, none⟩ = false ∧ tb < w.heap.size := by
  obtain ⟨D, x, n, a, m, d, base, h1, _⟩ := h
  refine ⟨?_, h1.frozen i, h1.lt⟩
  rw [h1.cell i]
  rcases (show i = 0 ∨ i = 1 ∨ i = 2 ∨ i = 3 ∨ i = 4 ∨ i = 5 ∨ i = 6 by omega) with rfl | rfl | rfl | rfl | rfl | rfl | rfl <;> exact ⟨_, rfl⟩
set_option maxHeartbeats 8000000 in
theorem row_0 {S : ByteArray} {g tb f : Nat} {t : PRule} {v : Value} {w : World} (h : At w g (rd S 0 0 0 0)) (ht : Tr w tb g t v) (hG : Glob g w) (htg : tb < g) (hs1 : 5 < tb) (hs2 : 6 < tb) (hS : S.size ≤ 140737488355328) :
    Calls Tryz.prog 101 #[.pointer (some ⟨g, 0, none⟩), .pointer (some ⟨tb, 0, none⟩), .int .i64 0] w (RowPost g tb v w (rowP f 0 (toks S.data.toList) t)) := by
  obtain ⟨RR, hRR⟩ : ∃ RR, RR = rowP f 0 (toks S.data.toList) t := ⟨_, rfl⟩
  rw [← hRR]
  obtain ⟨l, hl⟩ : ∃ l, l = toks S.data.toList := ⟨_, rfl⟩
  rw [← hl] at hRR
  have HRR := Lib.hid hRR
  have CS := Lib.hid (rd_scan0 h (by omega))
  rw [← hl] at CS
  have HT := Lib.hid ht; have HG := Lib.hid hG
  have HGB := Lib.hid (fun W (k : Below tb w W) => glob_below hG k hs1 hs2)
  clear hRR hl h ht hG hs1 hs2
  go_enter Tryz.func101, Tryz.ntmps101
  go_wp2_with fail
  refine CS.out.mono ?_
  rintro e w1 ⟨rfl, hw⟩
  have R1 := Lib.hid (show RS g S l tb t v w w1 from ⟨HT.out.one hw.2 htg, hw.1, bel_one (Below.refl tb w) hw.2 htg (Nat.le_of_lt HT.out.lt)⟩)
  have R2 := Lib.hid (R1.out.then_ (below_new (Below.refl _ _) (.cells #[.string ⟨#[99, 97, 108, 101, 110, 100, 97, 114]⟩, .string ⟨#[101, 112, 111, 99, 104]⟩, .string ⟨#[99, 121, 99, 108, 101]⟩, .string ⟨#[108, 101, 97, 112]⟩, .string ⟨#[109, 111, 110, 116, 104]⟩] 9)))
  have c5 : (w1.alloc (.cells #[.string ⟨#[99, 97, 108, 101, 110, 100, 97, 114]⟩, .string ⟨#[101, 112, 111, 99, 104]⟩, .string ⟨#[99, 121, 99, 108, 101]⟩, .string ⟨#[108, 101, 97, 112]⟩, .string ⟨#[109, 111, 110, 116, 104]⟩] 9)).cell? ⟨w1.heap.size, 0, none⟩ = some (.string ⟨#[99, 97, 108, 101, 110, 100, 97, 114]⟩) := (At.new w1 _).cell 0
  have hmn : min (0 : Int) 4 = 0 := by omega
  clear hw CS R1 HT
  go_upto_region 4 with fail
  clear c5 hmn
  generalize World.alloc w1 _ = W2 at R2 ⊢
  by_cases hk : hd l = [99, 97, 108, 101, 110, 100, 97, 114]
  rotate_left
  · have HR := Lib.hid (show RR = .bad 4 by rw [HRR.out, rowP]; show (if hd l = kOf 0 then _ else _ : Res (List Tok)).bind _ = _; rw [if_neg (show ¬ hd l = kOf 0 from hk)]; rfl)
    have CT := Lib.hid (show Calls Tryz.prog 124 #[.pointer (some ⟨g, 0, none⟩), .string ⟨#[99, 97, 108, 101, 110, 100, 97, 114]⟩] W2 (fun e w' => e = .returned (.bool false) ∧ Went g S l 0 W2 w') from by
      have := rd_take [99, 97, 108, 101, 110, 100, 97, 114] R2.out.rd (by omega); rw [decide_eq_false hk, if_neg hk] at this; exact this)
    clear hk HRR
    go_wp2_with fail
    refine CT.out.mono ?_
    rintro e w3 ⟨rfl, hw⟩
    have R3 := Lib.hid (R2.out.went hw htg)
    clear hw R2 CT
    have CF := Lib.hid (rd_fail 4 R3.out.rd)
    go_wp2_with fail
    refine CF.out.mono ?_
    rintro e w4 ⟨rfl, hf⟩
    have F4 := Lib.hid (R3.out.failed hf htg)
    clear hf R3 CF
    go_wp2_with fail
    go_ret
    exact (by rw [HR.out]; exact ⟨rfl, by decide, F4.out⟩)
  have HRR2 := Lib.hid (show RR = (restP f 0 l.tail t).bind fun p => if hd p.2 = [] then .good p.1 else .bad 4 by rw [HRR.out, rowP]; show (if hd l = kOf 0 then _ else _ : Res (List Tok)).bind _ = _; rw [if_pos (show hd l = kOf 0 from hk)]; rfl)
  have CT := Lib.hid (show Calls Tryz.prog 124 #[.pointer (some ⟨g, 0, none⟩), .string ⟨#[99, 97, 108, 101, 110, 100, 97, 114]⟩] W2 (fun e w' => e = .returned (.bool true) ∧ Went g S l.tail 0 W2 w') from by
    have := rd_take [99, 97, 108, 101, 110, 100, 97, 114] R2.out.rd (by omega); rw [decide_eq_true hk, if_pos hk] at this; exact this)
  clear hk HRR
  go_wp2_with fail
  refine CT.out.mono ?_
  rintro e w3 ⟨rfl, hw⟩
  have R3 := Lib.hid (R2.out.went hw htg)
  clear hw R2 CT
  have CW := Lib.hid (rd_word R3.out.rd (by omega))
  have HRR3 := Lib.hid (show RR = ((wordP l.tail).bind fun p => .good ({ t with nm := p.1 }, p.2) : Res (PRule × List Tok)).bind fun p => if hd p.2 = [] then .good p.1 else .bad 4 by rw [HRR2.out]; rfl)
  clear HRR2
  go_wp2_with fail
  refine CW.out.mono ?_
  rcases wordP_cases l.tail with ew | ew
  · rw [ew]
    rintro e w4 ⟨rfl, hc, hf⟩
    have HR := Lib.hid (show RR = .bad 4 by rw [HRR3.out, ew]; rfl)
    obtain ⟨⟨x, x0⟩, x1, x2⟩ := tr_cell (R3.out.tr.one hf.2 htg) 0 (by omega)
    have F4 := Lib.hid (R3.out.failed hf htg)
    clear hf CW ew HRR3
    have R5 := Lib.hid (F4.out.field htg 0 (.string ⟨#[]⟩))
    go_upto_region 18 with fail
    generalize World.setCell w4 _ _ = W5 at R5 ⊢
    clear F4 x0 x1 x2
    go_wp2_with fail
    go_ret
    exact (by rw [HR.out]; exact ⟨rfl, hc, R5.out⟩)
  · rw [ew]
    rintro e w4 ⟨rfl, hf⟩
    have HG2 := Lib.hid (show RR = if hd l.tail.tail = [] then .good { t with nm := hd l.tail } else .bad 4 by rw [HRR3.out, ew]; rfl)
    obtain ⟨⟨x, x0⟩, x1, x2⟩ := tr_cell (R3.out.tr.one hf.2 htg) 0 (by omega)
    have F4 := Lib.hid (R3.out.went hf htg)
    clear hf CW ew HRR3
    simp only at F4
    have R5 := Lib.hid (show RS g S l.tail.tail tb { t with nm := hd l.tail } v w (w4.setCell ⟨tb, 0, none⟩ (.string (tkS (hd l.tail)))) from F4.out.field htg 0 (.string (tkS (hd l.tail))) rfl rfl (fun _ _ _ _ _ => rfl))
    go_upto_region 18 with fail
    generalize World.setCell w4 _ _ = W5 at R5 ⊢
    clear F4 x0 x1 x2
    have CK := Lib.hid (rd_token R5.out.rd (by omega))
    obtain ⟨Y, hY⟩ : ∃ Y, Y = tkS (hd l.tail.tail) := ⟨_, rfl⟩
    rw [← hY] at CK
    by_cases he : hd l.tail.tail = []
    · have HR := Lib.hid (show RR = .good { t with nm := hd l.tail } by rw [HG2.out, if_pos he])
      obtain rfl : Y = ⟨#[]⟩ := by rw [hY, he]
      clear he hY HG2
      go_wp2_with fail
      refine CK.out.mono ?_
      rintro e w8 ⟨rfl, hb⟩
      have R8 := Lib.hid (R5.out.then_ hb)
      clear hb
      go_wp2_with fail
      go_ret
      exact (by rw [HR.out]; exact ⟨rfl, ⟨_, (fun h => by first | rfl | (simp at h)), R8.out.tr⟩, R8.out.bel⟩)
    · have HR := Lib.hid (show RR = .bad 4 by rw [HG2.out, if_neg he])
      have hne := str_ne Y (by rw [hY, tkS_len]; exact List.length_pos_iff.2 he)
      clear he hY HG2
      go_wp2_with fail
      refine CK.out.mono ?_
      rintro e w8 ⟨rfl, hb⟩
      have R8 := Lib.hid (R5.out.then_ hb)
      clear hb
      have CF := Lib.hid (rd_fail 4 R8.out.rd)
      go_wp2_with fail
      refine CF.out.mono ?_
      rintro e w9 ⟨rfl, hf⟩
      have F9 := Lib.hid (R8.out.failed hf htg)
      clear hf
      go_wp2_with fail
      go_ret
      exact (by rw [HR.out]; exact ⟨rfl, by decide, F9.out⟩)
set_option maxHeartbeats 8000000 in
theorem row_1 {S : ByteArray} {g tb f : Nat} {t : PRule} {v : Value} {w : World} (h : At w g (rd S 0 0 0 0)) (ht : Tr w tb g t v) (hG : Glob g w) (htg : tb < g) (hs1 : 5 < tb) (hs2 : 6 < tb) (hS : S.size ≤ 140737488355328) :
    Calls Tryz.prog 101 #[.pointer (some ⟨g, 0, none⟩), .pointer (some ⟨tb, 0, none⟩), .int .i64 1] w (RowPost g tb v w (rowP f 1 (toks S.data.toList) t)) := by
  obtain ⟨RR, hRR⟩ : ∃ RR, RR = rowP f 1 (toks S.data.toList) t := ⟨_, rfl⟩
  rw [← hRR]
  obtain ⟨l, hl⟩ : ∃ l, l = toks S.data.toList := ⟨_, rfl⟩
  rw [← hl] at hRR
  have HRR := Lib.hid hRR
  have CS := Lib.hid (rd_scan0 h (by omega))
  rw [← hl] at CS
  have HT := Lib.hid ht; have HG := Lib.hid hG
  have HGB := Lib.hid (fun W (k : Below tb w W) => glob_below hG k hs1 hs2)
  clear hRR hl h ht hG hs1 hs2
  go_enter Tryz.func101, Tryz.ntmps101
  go_wp2_with fail
  refine CS.out.mono ?_
  rintro e w1 ⟨rfl, hw⟩
  have R1 := Lib.hid (show RS g S l tb t v w w1 from ⟨HT.out.one hw.2 htg, hw.1, bel_one (Below.refl tb w) hw.2 htg (Nat.le_of_lt HT.out.lt)⟩)
  have R2 := Lib.hid (R1.out.then_ (below_new (Below.refl _ _) (.cells #[.string ⟨#[99, 97, 108, 101, 110, 100, 97, 114]⟩, .string ⟨#[101, 112, 111, 99, 104]⟩, .string ⟨#[99, 121, 99, 108, 101]⟩, .string ⟨#[108, 101, 97, 112]⟩, .string ⟨#[109, 111, 110, 116, 104]⟩] 9)))
  have c5 : (w1.alloc (.cells #[.string ⟨#[99, 97, 108, 101, 110, 100, 97, 114]⟩, .string ⟨#[101, 112, 111, 99, 104]⟩, .string ⟨#[99, 121, 99, 108, 101]⟩, .string ⟨#[108, 101, 97, 112]⟩, .string ⟨#[109, 111, 110, 116, 104]⟩] 9)).cell? ⟨w1.heap.size, 1, none⟩ = some (.string ⟨#[101, 112, 111, 99, 104]⟩) := (At.new w1 _).cell 1
  have hmn : min (1 : Int) 4 = 1 := by omega
  clear hw CS R1 HT
  go_upto_region 4 with fail
  clear c5 hmn
  generalize World.alloc w1 _ = W2 at R2 ⊢
  by_cases hk : hd l = [101, 112, 111, 99, 104]
  rotate_left
  · have HR := Lib.hid (show RR = .bad 4 by rw [HRR.out, rowP]; show (if hd l = kOf 1 then _ else _ : Res (List Tok)).bind _ = _; rw [if_neg (show ¬ hd l = kOf 1 from hk)]; rfl)
    have CT := Lib.hid (show Calls Tryz.prog 124 #[.pointer (some ⟨g, 0, none⟩), .string ⟨#[101, 112, 111, 99, 104]⟩] W2 (fun e w' => e = .returned (.bool false) ∧ Went g S l 0 W2 w') from by
      have := rd_take [101, 112, 111, 99, 104] R2.out.rd (by omega); rw [decide_eq_false hk, if_neg hk] at this; exact this)
    clear hk HRR
    go_wp2_with fail
    refine CT.out.mono ?_
    rintro e w3 ⟨rfl, hw⟩
    have R3 := Lib.hid (R2.out.went hw htg)
    clear hw R2 CT
    have CF := Lib.hid (rd_fail 4 R3.out.rd)
    go_wp2_with fail
    refine CF.out.mono ?_
    rintro e w4 ⟨rfl, hf⟩
    have F4 := Lib.hid (R3.out.failed hf htg)
    clear hf R3 CF
    go_wp2_with fail
    go_ret
    exact (by rw [HR.out]; exact ⟨rfl, by decide, F4.out⟩)
  have HRR2 := Lib.hid (show RR = (restP f 1 l.tail t).bind fun p => if hd p.2 = [] then .good p.1 else .bad 4 by rw [HRR.out, rowP]; show (if hd l = kOf 1 then _ else _ : Res (List Tok)).bind _ = _; rw [if_pos (show hd l = kOf 1 from hk)]; rfl)
  have CT := Lib.hid (show Calls Tryz.prog 124 #[.pointer (some ⟨g, 0, none⟩), .string ⟨#[101, 112, 111, 99, 104]⟩] W2 (fun e w' => e = .returned (.bool true) ∧ Went g S l.tail 0 W2 w') from by
    have := rd_take [101, 112, 111, 99, 104] R2.out.rd (by omega); rw [decide_eq_true hk, if_pos hk] at this; exact this)
  clear hk HRR
  go_wp2_with fail
  refine CT.out.mono ?_
  rintro e w3 ⟨rfl, hw⟩
  have R3 := Lib.hid (R2.out.went hw htg)
  clear hw R2 CT
  have CW := Lib.hid (rd_number R3.out.rd hS)
  have HRR3 := Lib.hid (show RR = ((signP l.tail).bind fun p => .good ({ t with ep := p.1 }, p.2) : Res (PRule × List Tok)).bind fun p => if hd p.2 = [] then .good p.1 else .bad 4 by rw [HRR2.out]; rfl)
  clear HRR2
  go_wp2_with fail
  refine CW.out.mono ?_
  rcases signP_cases l.tail with ⟨c, ew⟩ | ⟨p, ew⟩
  · rw [ew]
    rintro e w4 ⟨rfl, hc, hf⟩
    have HR := Lib.hid (show RR = .bad c by rw [HRR3.out, ew]; rfl)
    obtain ⟨⟨x, x0⟩, x1, x2⟩ := tr_cell (R3.out.tr.one hf.2 htg) 1 (by omega)
    have F4 := Lib.hid (R3.out.failed hf htg)
    clear hf CW ew HRR3
    have R5 := Lib.hid (F4.out.field htg 1 (.int .i64 0))
    go_upto_region 18 with fail
    generalize World.setCell w4 _ _ = W5 at R5 ⊢
    clear F4 x0 x1 x2
    go_wp2_with fail
    go_ret
    exact (by rw [HR.out]; exact ⟨rfl, hc, R5.out⟩)
  · rw [ew]
    obtain ⟨n, l2⟩ := p
    rintro e w4 ⟨rfl, hf⟩
    have HG2 := Lib.hid (show RR = if hd l2 = [] then .good { t with ep := n } else .bad 4 by rw [HRR3.out, ew]; rfl)
    obtain ⟨⟨x, x0⟩, x1, x2⟩ := tr_cell (R3.out.tr.one hf.2 htg) 1 (by omega)
    have F4 := Lib.hid (R3.out.went hf htg)
    clear hf CW ew HRR3
    simp only at F4
    have R5 := Lib.hid (show RS g S l2 tb { t with ep := n } v w (w4.setCell ⟨tb, 1, none⟩ (.int .i64 n)) from F4.out.field htg 1 (.int .i64 n) rfl rfl (fun _ _ _ _ _ => rfl))
    go_upto_region 18 with fail
    generalize World.setCell w4 _ _ = W5 at R5 ⊢
    clear F4 x0 x1 x2
    have CK := Lib.hid (rd_token R5.out.rd (by omega))
    obtain ⟨Y, hY⟩ : ∃ Y, Y = tkS (hd l2) := ⟨_, rfl⟩
    rw [← hY] at CK
    by_cases he : hd l2 = []
    · have HR := Lib.hid (show RR = .good { t with ep := n } by rw [HG2.out, if_pos he])
      obtain rfl : Y = ⟨#[]⟩ := by rw [hY, he]
      clear he hY HG2
      go_wp2_with fail
      refine CK.out.mono ?_
      rintro e w8 ⟨rfl, hb⟩
      have R8 := Lib.hid (R5.out.then_ hb)
      clear hb
      go_wp2_with fail
      go_ret
      exact (by rw [HR.out]; exact ⟨rfl, ⟨_, (fun h => by first | rfl | (simp at h)), R8.out.tr⟩, R8.out.bel⟩)
    · have HR := Lib.hid (show RR = .bad 4 by rw [HG2.out, if_neg he])
      have hne := str_ne Y (by rw [hY, tkS_len]; exact List.length_pos_iff.2 he)
      clear he hY HG2
      go_wp2_with fail
      refine CK.out.mono ?_
      rintro e w8 ⟨rfl, hb⟩
      have R8 := Lib.hid (R5.out.then_ hb)
      clear hb
      have CF := Lib.hid (rd_fail 4 R8.out.rd)
      go_wp2_with fail
      refine CF.out.mono ?_
      rintro e w9 ⟨rfl, hf⟩
      have F9 := Lib.hid (R8.out.failed hf htg)
      clear hf
      go_wp2_with fail
      go_ret
      exact (by rw [HR.out]; exact ⟨rfl, by decide, F9.out⟩)
set_option maxHeartbeats 8000000 in
theorem row_2 {S : ByteArray} {g tb f : Nat} {t : PRule} {v : Value} {w : World} (h : At w g (rd S 0 0 0 0)) (ht : Tr w tb g t v) (hG : Glob g w) (htg : tb < g) (hs1 : 5 < tb) (hs2 : 6 < tb) (hS : S.size ≤ 140737488355328) :
    Calls Tryz.prog 101 #[.pointer (some ⟨g, 0, none⟩), .pointer (some ⟨tb, 0, none⟩), .int .i64 2] w (RowPost g tb v w (rowP f 2 (toks S.data.toList) t)) := by
  obtain ⟨RR, hRR⟩ : ∃ RR, RR = rowP f 2 (toks S.data.toList) t := ⟨_, rfl⟩
  rw [← hRR]
  obtain ⟨l, hl⟩ : ∃ l, l = toks S.data.toList := ⟨_, rfl⟩
  rw [← hl] at hRR
  have HRR := Lib.hid hRR
  have CS := Lib.hid (rd_scan0 h (by omega))
  rw [← hl] at CS
  have HT := Lib.hid ht; have HG := Lib.hid hG
  have HGB := Lib.hid (fun W (k : Below tb w W) => glob_below hG k hs1 hs2)
  clear hRR hl h ht hG hs1 hs2
  go_enter Tryz.func101, Tryz.ntmps101
  go_wp2_with fail
  refine CS.out.mono ?_
  rintro e w1 ⟨rfl, hw⟩
  have R1 := Lib.hid (show RS g S l tb t v w w1 from ⟨HT.out.one hw.2 htg, hw.1, bel_one (Below.refl tb w) hw.2 htg (Nat.le_of_lt HT.out.lt)⟩)
  have R2 := Lib.hid (R1.out.then_ (below_new (Below.refl _ _) (.cells #[.string ⟨#[99, 97, 108, 101, 110, 100, 97, 114]⟩, .string ⟨#[101, 112, 111, 99, 104]⟩, .string ⟨#[99, 121, 99, 108, 101]⟩, .string ⟨#[108, 101, 97, 112]⟩, .string ⟨#[109, 111, 110, 116, 104]⟩] 9)))
  have c5 : (w1.alloc (.cells #[.string ⟨#[99, 97, 108, 101, 110, 100, 97, 114]⟩, .string ⟨#[101, 112, 111, 99, 104]⟩, .string ⟨#[99, 121, 99, 108, 101]⟩, .string ⟨#[108, 101, 97, 112]⟩, .string ⟨#[109, 111, 110, 116, 104]⟩] 9)).cell? ⟨w1.heap.size, 2, none⟩ = some (.string ⟨#[99, 121, 99, 108, 101]⟩) := (At.new w1 _).cell 2
  have hmn : min (2 : Int) 4 = 2 := by omega
  clear hw CS R1 HT
  go_upto_region 4 with fail
  clear c5 hmn
  generalize World.alloc w1 _ = W2 at R2 ⊢
  by_cases hk : hd l = [99, 121, 99, 108, 101]
  rotate_left
  · have HR := Lib.hid (show RR = .bad 4 by rw [HRR.out, rowP]; show (if hd l = kOf 2 then _ else _ : Res (List Tok)).bind _ = _; rw [if_neg (show ¬ hd l = kOf 2 from hk)]; rfl)
    have CT := Lib.hid (show Calls Tryz.prog 124 #[.pointer (some ⟨g, 0, none⟩), .string ⟨#[99, 121, 99, 108, 101]⟩] W2 (fun e w' => e = .returned (.bool false) ∧ Went g S l 0 W2 w') from by
      have := rd_take [99, 121, 99, 108, 101] R2.out.rd (by omega); rw [decide_eq_false hk, if_neg hk] at this; exact this)
    clear hk HRR
    go_wp2_with fail
    refine CT.out.mono ?_
    rintro e w3 ⟨rfl, hw⟩
    have R3 := Lib.hid (R2.out.went hw htg)
    clear hw R2 CT
    have CF := Lib.hid (rd_fail 4 R3.out.rd)
    go_wp2_with fail
    refine CF.out.mono ?_
    rintro e w4 ⟨rfl, hf⟩
    have F4 := Lib.hid (R3.out.failed hf htg)
    clear hf R3 CF
    go_wp2_with fail
    go_ret
    exact (by rw [HR.out]; exact ⟨rfl, by decide, F4.out⟩)
  have HRR2 := Lib.hid (show RR = (restP f 2 l.tail t).bind fun p => if hd p.2 = [] then .good p.1 else .bad 4 by rw [HRR.out, rowP]; show (if hd l = kOf 2 then _ else _ : Res (List Tok)).bind _ = _; rw [if_pos (show hd l = kOf 2 from hk)]; rfl)
  have CT := Lib.hid (show Calls Tryz.prog 124 #[.pointer (some ⟨g, 0, none⟩), .string ⟨#[99, 121, 99, 108, 101]⟩] W2 (fun e w' => e = .returned (.bool true) ∧ Went g S l.tail 0 W2 w') from by
    have := rd_take [99, 121, 99, 108, 101] R2.out.rd (by omega); rw [decide_eq_true hk, if_pos hk] at this; exact this)
  clear hk HRR
  go_wp2_with fail
  refine CT.out.mono ?_
  rintro e w3 ⟨rfl, hw⟩
  have R3 := Lib.hid (R2.out.went hw htg)
  clear hw R2 CT
  have CW := Lib.hid (rd_number R3.out.rd hS)
  have HRR3 := Lib.hid (show RR = ((signP l.tail).bind fun p => .good ({ t with cy := p.1 }, p.2) : Res (PRule × List Tok)).bind fun p => if hd p.2 = [] then .good p.1 else .bad 4 by rw [HRR2.out]; rfl)
  clear HRR2
  go_wp2_with fail
  refine CW.out.mono ?_
  rcases signP_cases l.tail with ⟨c, ew⟩ | ⟨p, ew⟩
  · rw [ew]
    rintro e w4 ⟨rfl, hc, hf⟩
    have HR := Lib.hid (show RR = .bad c by rw [HRR3.out, ew]; rfl)
    obtain ⟨⟨x, x0⟩, x1, x2⟩ := tr_cell (R3.out.tr.one hf.2 htg) 2 (by omega)
    have F4 := Lib.hid (R3.out.failed hf htg)
    clear hf CW ew HRR3
    have R5 := Lib.hid (F4.out.field htg 2 (.int .i64 0))
    go_upto_region 18 with fail
    generalize World.setCell w4 _ _ = W5 at R5 ⊢
    clear F4 x0 x1 x2
    go_wp2_with fail
    go_ret
    exact (by rw [HR.out]; exact ⟨rfl, hc, R5.out⟩)
  · rw [ew]
    obtain ⟨n, l2⟩ := p
    rintro e w4 ⟨rfl, hf⟩
    have HG2 := Lib.hid (show RR = if hd l2 = [] then .good { t with cy := n } else .bad 4 by rw [HRR3.out, ew]; rfl)
    obtain ⟨⟨x, x0⟩, x1, x2⟩ := tr_cell (R3.out.tr.one hf.2 htg) 2 (by omega)
    have F4 := Lib.hid (R3.out.went hf htg)
    clear hf CW ew HRR3
    simp only at F4
    have R5 := Lib.hid (show RS g S l2 tb { t with cy := n } v w (w4.setCell ⟨tb, 2, none⟩ (.int .i64 n)) from F4.out.field htg 2 (.int .i64 n) rfl rfl (fun _ _ _ _ _ => rfl))
    go_upto_region 18 with fail
    generalize World.setCell w4 _ _ = W5 at R5 ⊢
    clear F4 x0 x1 x2
    have CK := Lib.hid (rd_token R5.out.rd (by omega))
    obtain ⟨Y, hY⟩ : ∃ Y, Y = tkS (hd l2) := ⟨_, rfl⟩
    rw [← hY] at CK
    by_cases he : hd l2 = []
    · have HR := Lib.hid (show RR = .good { t with cy := n } by rw [HG2.out, if_pos he])
      obtain rfl : Y = ⟨#[]⟩ := by rw [hY, he]
      clear he hY HG2
      go_wp2_with fail
      refine CK.out.mono ?_
      rintro e w8 ⟨rfl, hb⟩
      have R8 := Lib.hid (R5.out.then_ hb)
      clear hb
      go_wp2_with fail
      go_ret
      exact (by rw [HR.out]; exact ⟨rfl, ⟨_, (fun h => by first | rfl | (simp at h)), R8.out.tr⟩, R8.out.bel⟩)
    · have HR := Lib.hid (show RR = .bad 4 by rw [HG2.out, if_neg he])
      have hne := str_ne Y (by rw [hY, tkS_len]; exact List.length_pos_iff.2 he)
      clear he hY HG2
      go_wp2_with fail
      refine CK.out.mono ?_
      rintro e w8 ⟨rfl, hb⟩
      have R8 := Lib.hid (R5.out.then_ hb)
      clear hb
      have CF := Lib.hid (rd_fail 4 R8.out.rd)
      go_wp2_with fail
      refine CF.out.mono ?_
      rintro e w9 ⟨rfl, hf⟩
      have F9 := Lib.hid (R8.out.failed hf htg)
      clear hf
      go_wp2_with fail
      go_ret
      exact (by rw [HR.out]; exact ⟨rfl, by decide, F9.out⟩)
set_option maxHeartbeats 8000000 in
theorem row_3 {S : ByteArray} {g tb f : Nat} {t : PRule} {v : Value} {w : World} (h : At w g (rd S 0 0 0 0)) (ht : Tr w tb g t v) (hG : Glob g w) (htg : tb < g) (hs1 : 5 < tb) (hs2 : 6 < tb) (hS : S.size ≤ 140737488355328) (hms : t.ms = []) (hv : v = .slice none 0 0) (hns : hd (toks S.data.toList) = [108, 101, 97, 112] → expP f 0 (toks S.data.toList).tail 0 ≠ .stuck) :
    Calls Tryz.prog 101 #[.pointer (some ⟨g, 0, none⟩), .pointer (some ⟨tb, 0, none⟩), .int .i64 3] w (RowPost g tb v w (rowP f 3 (toks S.data.toList) t)) := by
  obtain ⟨RR, hRR⟩ : ∃ RR, RR = rowP f 3 (toks S.data.toList) t := ⟨_, rfl⟩
  rw [← hRR]
  obtain ⟨l, hl⟩ : ∃ l, l = toks S.data.toList := ⟨_, rfl⟩
  rw [← hl] at hRR hns
  have HRR := Lib.hid hRR
  have CS := Lib.hid (rd_scan0 h (by omega))
  rw [← hl] at CS
  have HT := Lib.hid ht; have HG := Lib.hid hG
  have HGB := Lib.hid (fun W (k : Below tb w W) => glob_below hG k hs1 hs2)
  clear hRR hl h ht hG hs1 hs2
  go_enter Tryz.func101, Tryz.ntmps101
  go_wp2_with fail
  refine CS.out.mono ?_
  rintro e w1 ⟨rfl, hw⟩
  have R1 := Lib.hid (show RS g S l tb t v w w1 from ⟨HT.out.one hw.2 htg, hw.1, bel_one (Below.refl tb w) hw.2 htg (Nat.le_of_lt HT.out.lt)⟩)
  have R2 := Lib.hid (R1.out.then_ (below_new (Below.refl _ _) (.cells #[.string ⟨#[99, 97, 108, 101, 110, 100, 97, 114]⟩, .string ⟨#[101, 112, 111, 99, 104]⟩, .string ⟨#[99, 121, 99, 108, 101]⟩, .string ⟨#[108, 101, 97, 112]⟩, .string ⟨#[109, 111, 110, 116, 104]⟩] 9)))
  have c5 : (w1.alloc (.cells #[.string ⟨#[99, 97, 108, 101, 110, 100, 97, 114]⟩, .string ⟨#[101, 112, 111, 99, 104]⟩, .string ⟨#[99, 121, 99, 108, 101]⟩, .string ⟨#[108, 101, 97, 112]⟩, .string ⟨#[109, 111, 110, 116, 104]⟩] 9)).cell? ⟨w1.heap.size, 3, none⟩ = some (.string ⟨#[108, 101, 97, 112]⟩) := (At.new w1 _).cell 3
  have hmn : min (3 : Int) 4 = 3 := by omega
  clear hw CS R1 HT
  go_upto_region 4 with fail
  clear c5 hmn
  generalize World.alloc w1 _ = W2 at R2 ⊢
  by_cases hk : hd l = [108, 101, 97, 112]
  rotate_left
  · have HR := Lib.hid (show RR = .bad 4 by rw [HRR.out, rowP]; show (if hd l = kOf 3 then _ else _ : Res (List Tok)).bind _ = _; rw [if_neg (show ¬ hd l = kOf 3 from hk)]; rfl)
    have CT := Lib.hid (show Calls Tryz.prog 124 #[.pointer (some ⟨g, 0, none⟩), .string ⟨#[108, 101, 97, 112]⟩] W2 (fun e w' => e = .returned (.bool false) ∧ Went g S l 0 W2 w') from by
      have := rd_take [108, 101, 97, 112] R2.out.rd (by omega); rw [decide_eq_false hk, if_neg hk] at this; exact this)
    clear hk HRR
    go_wp2_with fail
    refine CT.out.mono ?_
    rintro e w3 ⟨rfl, hw⟩
    have R3 := Lib.hid (R2.out.went hw htg)
    clear hw R2 CT
    have CF := Lib.hid (rd_fail 4 R3.out.rd)
    go_wp2_with fail
    refine CF.out.mono ?_
    rintro e w4 ⟨rfl, hf⟩
    have F4 := Lib.hid (R3.out.failed hf htg)
    clear hf R3 CF
    go_wp2_with fail
    go_ret
    exact (by rw [HR.out]; exact ⟨rfl, by decide, F4.out⟩)
  have hns := hns hk
  have HRR2 := Lib.hid (show RR = (restP f 3 l.tail t).bind fun p => if hd p.2 = [] then .good p.1 else .bad 4 by rw [HRR.out, rowP]; show (if hd l = kOf 3 then _ else _ : Res (List Tok)).bind _ = _; rw [if_pos (show hd l = kOf 3 from hk)]; rfl)
  have CT := Lib.hid (show Calls Tryz.prog 124 #[.pointer (some ⟨g, 0, none⟩), .string ⟨#[108, 101, 97, 112]⟩] W2 (fun e w' => e = .returned (.bool true) ∧ Went g S l.tail 0 W2 w') from by
    have := rd_take [108, 101, 97, 112] R2.out.rd (by omega); rw [decide_eq_true hk, if_pos hk] at this; exact this)
  clear hk HRR
  go_wp2_with fail
  refine CT.out.mono ?_
  rintro e w3 ⟨rfl, hw⟩
  have R3 := Lib.hid (R2.out.went hw htg)
  clear hw R2 CT
  have CE := Lib.hid (show Calls Tryz.prog 128 #[.pointer (some ⟨g, 0, none⟩), .int .i64 0] w3 (EPost g S 0 w3 (expP f 0 l.tail 0)) from (expr_all hS f).1 f (Nat.le_refl _) 0 l.tail 0 w3 (by omega) (by omega) hns R3.out.rd (HGB.out w3 R3.out.bel))
  have HRR3 := Lib.hid (show RR = ((expP f 0 l.tail 0).bind fun p => .good ({ t with lp := p.1 }, p.2) : Res (PRule × List Tok)).bind fun p => if hd p.2 = [] then .good p.1 else .bad 4 by rw [HRR2.out]; rfl)
  clear HRR2 hns
  go_wp2_with fail
  refine CE.out.mono ?_
  generalize expP f 0 l.tail 0 = R0 at HRR3
  intro e w4 hp
  have HF3 := Lib.hid R3.out.tr
  cases R0 with
  | stuck => exact hp.elim
  | bad c =>
    obtain ⟨⟨k, n, a, m, d, rfl⟩, hc, hf⟩ := hp
    have HR := Lib.hid (show RR = .bad c by rw [HRR3.out]; rfl)
    have htr := HF3.out.one hf.2 htg
    obtain ⟨⟨x, x0⟩, x1, x2⟩ := tr_cell htr 3 (by omega)
    obtain ⟨⟨y, y0⟩, y1, _⟩ := tr_cell htr 4 (by omega)
    obtain ⟨⟨z, z0⟩, z1, _⟩ := tr_cell htr 5 (by omega)
    have F4 := Lib.hid (((R3.out.failed hf htg).field htg 3 (.int .i64 k)).field htg 4 (.int .i64 n) |>.field htg 5 (.slice a m d))
    clear hf CE HRR3 htr HF3 R3
    go_upto_region 18 with fail
    generalize World.setCell (World.setCell (World.setCell w4 _ _) _ _) _ _ = W5 at F4 ⊢
    clear x0 x1 x2 y0 y1 z0 z1
    go_wp2_with fail
    go_ret
    exact (by rw [HR.out]; exact ⟨rfl, hc, F4.out⟩)
  | good p =>
    obtain ⟨y, l2⟩ := p
    obtain ⟨⟨u, D, rfl, hy⟩, hw⟩ := hp
    obtain ⟨k, n, a, m, d, rfl⟩ := hy.form
    have HG2 := Lib.hid (show RR = if hd l2 = [] then .good { t with lp := y } else .bad 4 by rw [HRR3.out]; rfl)
    have R4 := R3.out.went hw htg
    have hlo : tb + 1 ≤ w3.heap.size := by have := HF3.out.lt; omega
    have hDg : ¬ D g := fun h => by have h1 := (hy.2 g h).1; have h2 := R3.out.rd.lt; omega
    obtain ⟨⟨x, x0⟩, x1, x2⟩ := tr_cell R4.tr 3 (by omega)
    obtain ⟨⟨y', y0⟩, y1, _⟩ := tr_cell R4.tr 4 (by omega)
    obtain ⟨⟨z, z0⟩, z1, _⟩ := tr_cell R4.tr 5 (by omega)
    have R5 := Lib.hid (show RS g S l2 tb { t with lp := y } v w (((w4.setCell ⟨tb, 3, none⟩ (.int .i64 k)).setCell ⟨tb, 4, none⟩ (.int .i64 n)).setCell ⟨tb, 5, none⟩ (.slice a m d)) from by
      obtain ⟨ra, rn, rp, rat⟩ := R4.rd
      exact ⟨R4.tr.leap hms hv (hy.weak hlo) hDg, ⟨ra, rn, rp, ((rat.apart (p := ⟨tb, 3, none⟩) (by show g ≠ tb; omega) _).apart (p := ⟨tb, 4, none⟩) (by show g ≠ tb; omega) _).apart (p := ⟨tb, 5, none⟩) (by show g ≠ tb; omega) _⟩, below_set (below_set (below_set R4.bel (Nat.le_refl _) _) (Nat.le_refl _) _) (Nat.le_refl _) _⟩)
    clear R4 hw hy CE HRR3 HF3 R3
    go_upto_region 18 with fail
    generalize World.setCell (World.setCell (World.setCell w4 _ _) _ _) _ _ = W5 at R5 ⊢
    clear x0 x1 x2 y0 y1 z0 z1
    have CK := Lib.hid (rd_token R5.out.rd (by omega))
    obtain ⟨Y, hY⟩ : ∃ Y, Y = tkS (hd l2) := ⟨_, rfl⟩
    rw [← hY] at CK
    by_cases he : hd l2 = []
    · have HR := Lib.hid (show RR = .good { t with lp := y } by rw [HG2.out, if_pos he])
      obtain rfl : Y = ⟨#[]⟩ := by rw [hY, he]
      clear he hY HG2
      go_wp2_with fail
      refine CK.out.mono ?_
      rintro e w8 ⟨rfl, hb⟩
      have R8 := Lib.hid (R5.out.then_ hb)
      clear hb
      go_wp2_with fail
      go_ret
      exact (by rw [HR.out]; exact ⟨rfl, ⟨_, (fun h => by first | rfl | (simp at h)), R8.out.tr⟩, R8.out.bel⟩)
    · have HR := Lib.hid (show RR = .bad 4 by rw [HG2.out, if_neg he])
      have hne := str_ne Y (by rw [hY, tkS_len]; exact List.length_pos_iff.2 he)
      clear he hY HG2
      go_wp2_with fail
      refine CK.out.mono ?_
      rintro e w8 ⟨rfl, hb⟩
      have R8 := Lib.hid (R5.out.then_ hb)
      clear hb
      have CF := Lib.hid (rd_fail 4 R8.out.rd)
      go_wp2_with fail
      refine CF.out.mono ?_
      rintro e w9 ⟨rfl, hf⟩
      have F9 := Lib.hid (R8.out.failed hf htg)
      clear hf
      go_wp2_with fail
      go_ret
      exact (by rw [HR.out]; exact ⟨rfl, by decide, F9.out⟩)
end Go.Proofs.YtdmkghgachapaabGreatDoor
