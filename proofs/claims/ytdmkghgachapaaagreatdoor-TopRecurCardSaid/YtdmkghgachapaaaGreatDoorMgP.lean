/- Several texts in one: Rcp4, Rcp5, Rcp6. -/
import Derived.Test.YtdmkghgachapaaaGreatDoorRcp3
import Derived.Test.YtdmkghgachapaaaGreatDoorRecur3
import Derived.Test.YtdmkghgachapaaaGreatDoorMgB
/- recur: the closure that reads a number; Print. -/
namespace Go.Proofs.YtdmkghgachapaaaGreatDoor
set_option linter.unusedVariables false
set_option linter.unusedSimpArgs false
set_option maxRecDepth 100000
open Go.RowKit Go.Shelf

theorem recur_number (s : ByteArray) (w : World) (hs : s.size ≤ 140737488355328) (he : Errs w) :
    Calls Tryz.prog 11 #[.string s] w fun e w' => e = .returned (.int .i64 (atoiV s.data.toList)) ∧ Below w.heap.size w w' := by
  have CA := Lib.hid (lib_Atoi s w hs he)
  go_enter Tryz.func11, Tryz.ntmps11
  go_wp2_with fail
  refine CA.out.mono ?_
  rintro e w1 ⟨er, _, rfl, hb⟩
  have B1 := Lib.hid hb
  clear hb
  go_wp2_with fail
  go_ret
  exact ⟨rfl, B1.out⟩
theorem recurErr_unit {u ev f cn un : Int} {ws ms ns : List Int} (h : recurErr u ev f cn un ws ms ns = 0) : 1 ≤ u ∧ u ≤ 4 ∧ 0 ≤ cn := by
  unfold recurErr at h
  split at h
  · omega
  rename_i h1
  split at h
  · omega
  rename_i h2
  omega
theorem listOut_few {lo hi : Int} {z : Bool} {l : List Int} (h : listOut lo hi z l = 0) : l.length ≤ 31 := by
  unfold listOut at h
  split at h
  · omega
  · omega
theorem recurErr_few {u ev f cn un : Int} {ws ms ns : List Int} (h : recurErr u ev f cn un ws ms ns = 0) : ws.length ≤ 31 ∧ ms.length ≤ 31 ∧ ns.length ≤ 31 := by
  unfold recurErr at h
  split at h
  · omega
  split at h
  · omega
  split at h
  · rename_i h1; exact absurd h h1
  rename_i h1
  split at h
  · rename_i h2; exact absurd h h2
  rename_i h2
  exact ⟨listOut_few (by simpa using h1), listOut_few (by simpa using h2), listOut_few h⟩
def PrintPost (u ev f cn un : Int) (ws ms ns : List Int) (w : World) (e : Ending) (w' : World) : Prop :=
  Below w.heap.size w w' ∧ if recurErr u ev f cn un ws ms ns ≠ 0 then e = .returned (.tuple #[.string ⟨#[]⟩, .int .i64 (recurErr u ev f cn un ws ms ns)]) else e = .returned (.tuple #[.string ⟨(recS u ev f cn un ws ms ns).toArray⟩, .int .i64 0])
set_option maxHeartbeats 4000000 in
theorem recur_Print (w : World) (u ev f cn un : Int) (a1 a2 a3 : Option Addr) (n1 n2 n3 c1 c2 c3 : Nat) (ws ms ns : List Int) (he : I64 ev) (hf : I64 f) (hc : I64 cn) (hu : I64 un)
    (h1 : Ints w w.heap.size a1 n1 ws) (h2 : Ints w w.heap.size a2 n2 ms) (h3 : Ints w w.heap.size a3 n3 ns) (k1 : n1 ≤ c1) (k2 : n2 ≤ c2) (k3 : n3 ≤ c3) (x1 : c1 ≤ 9223372036854775807) (x2 : c2 ≤ 9223372036854775807) (x3 : c3 ≤ 9223372036854775807)
    (hp : Pow w) (hun : UnitsAt w) :
    Calls Tryz.prog 5 #[.agg (recV u ev f cn un a1 a2 a3 n1 n2 n3 c1 c2 c3)] w (PrintPost u ev f cn un ws ms ns w) := by
  have H1 := Lib.hid h1; have H2 := Lib.hid h2; have H3 := Lib.hid h3
  have HP := Lib.hid hp; have HU := Lib.hid hun
  have HE := Lib.hid he; have HF := Lib.hid hf; have HC := Lib.hid hc; have HUN := Lib.hid hu
  clear h1 h2 h3 hp hun he hf hc hu
  go_enter Tryz.func5, Tryz.ntmps5
  go_wp2_with fail
  have t0 := At.new w (recO u ev f cn un a1 a2 a3 n1 n2 n3 c1 c2 c3)
  have b0 := below_new (Below.refl w.heap.size w) (recO u ev f cn un a1 a2 a3 n1 n2 n3 c1 c2 c3)
  generalize World.alloc w _ = W1 at t0 b0 ⊢
  refine (recur_Check W1 u ev f cn un a1 a2 a3 n1 n2 n3 c1 c2 c3 ws ms ns ((H1.out.below b0 (Nat.le_refl _)).more b0.size) ((H2.out.below b0 (Nat.le_refl _)).more b0.size) ((H3.out.below b0 (Nat.le_refl _)).more b0.size) k1 k2 k3 x1 x2 x3).mono ?_
  rintro e w2 ⟨rfl, hb⟩
  have B2 := Lib.hid (below_then b0 hb)
  have t2 := t0.then_ hb
  have z0 := t2.cell 0; have z1 := t2.cell 1; have z2 := t2.cell 2; have z3 := t2.cell 3; have z4 := t2.cell 4; have z5 := t2.cell 5; have z6 := t2.cell 6; have z7 := t2.cell 7; simp at z0 z1 z2 z3 z4 z5 z6 z7
  have hTl := t2.lt
  clear t0 b0 hb t2
  by_cases hE : recurErr u ev f cn un ws ms ns = 0
  · have hun' := recurErr_unit hE
    have hfew := recurErr_few hE
    rw [H1.out.1, H2.out.1, H3.out.1] at hfew
    have m1 : n1 ≤ 4398046511104 := by omega
    have m2 : n2 ≤ 4398046511104 := by omega
    have m3 : n3 ≤ 4398046511104 := by omega
    obtain ⟨k, rfl⟩ := Int.eq_ofNat_of_zero_le (show 0 ≤ u by omega)
    have hk : k < 5 := by omega
    have HEZ := Lib.hid hE
    rw [hE]
    clear hE hun' hfew
    go_wp2_with fail
    refine (recur_show w2 k hk ev f cn un a1 a2 a3 n1 n2 n3 c1 c2 c3 ws ms ns HE.out HF.out HC.out HUN.out ((H1.out.below B2.out (Nat.le_refl _)).more B2.out.size) ((H2.out.below B2.out (Nat.le_refl _)).more B2.out.size) ((H3.out.below B2.out (Nat.le_refl _)).more B2.out.size) m1 m2 m3 (HP.out.below B2.out) (HU.out.below B2.out)).mono ?_
    rintro e w3 ⟨rfl, hb3⟩
    have B3 := Lib.hid (below_then B2.out hb3)
    clear hb3
    go_wp2_with fail
    go_ret2
    exact ⟨B3.out, by rw [HEZ.out, if_neg (by simp)]; rfl⟩
  · have hq : (recurErr u ev f cn un ws ms ns != 0) = true := by simpa using hE
    have HQ := Lib.hid hE
    obtain ⟨E, hEe⟩ : ∃ E, E = recurErr u ev f cn un ws ms ns := ⟨_, rfl⟩
    rw [← hEe] at hq HQ ⊢
    have HEE := Lib.hid hEe
    clear hE hEe
    go_wp2_with fail
    go_ret2
    exact ⟨B2.out, by rw [← HEE.out, if_pos HQ.out]; rfl⟩
end Go.Proofs.YtdmkghgachapaaaGreatDoor

/- recur.Parse: the place of a word in a list of words; the pairs of words, plain. -/
namespace Go.Proofs.YtdmkghgachapaaaGreatDoor
set_option linter.unusedVariables false
set_option linter.unusedSimpArgs false
set_option maxRecDepth 100000
open Go.RowKit

theorem drop_rowR {α : Type} {xs : List α} {k : Nat} {x : α} (h : xs[k]? = some x) : xs.drop k = x :: xs.drop (k + 1) := by
  obtain ⟨hl, rfl⟩ := List.getElem?_eq_some_iff.1 h
  exact List.drop_eq_getElem_cons hl
def encT (s : ByteArray) : List Value := [.string s]
abbrev Txts (w : World) (B : Nat) (a : Option Addr) (n : Nat) (xs : List ByteArray) : Prop := RowsOf 1 encT w B a n xs
theorem txts_at {w : World} {B : Nat} {a : Option Addr} {n : Nat} {xs : List ByteArray} (h : Txts w B a n xs) {k : Nat} (hk : k < n) : ∃ b off s, a = some ⟨b, off, none⟩ ∧ b < B ∧ w.cell? ⟨b, off + k, none⟩ = some (.string s) ∧ xs[k]? = some s := by
  obtain ⟨b, off, e, hb, hc⟩ := h.2.2 (by omega)
  have hl : k < xs.length := by rw [h.1]; exact hk
  have hx := List.getElem?_eq_getElem hl
  have := hc k _ hx 0 _ rfl
  simp only [Nat.mul_one, Nat.add_zero] at this
  exact ⟨b, off, _, e, hb, this, hx⟩
def idxS (s : ByteArray) : List ByteArray → Nat → Int
  | [], _ => -1
  | x :: r, k => if s = x then (k : Int) else idxS s r (k + 1)
theorem idxS_cons (s x : ByteArray) (r : List ByteArray) (k : Nat) : idxS s (x :: r) k = if s = x then (k : Int) else idxS s r (k + 1) := by rw [idxS.eq_def]
def hasS (s : ByteArray) (l : List ByteArray) : Bool := l.any fun x => decide (s = x)
theorem idxS_has (s : ByteArray) : ∀ (l : List ByteArray) (k : Nat), decide (0 ≤ idxS s l k) = hasS s l
  | [], k => by simp [idxS, hasS]
  | x :: r, k => by
    have ih := idxS_has s r (k + 1)
    unfold hasS at ih ⊢
    rw [idxS_cons, List.any_cons]
    by_cases h : s = x
    · rw [if_pos h, decide_eq_true h]; simp
    · rw [if_neg h, ih, decide_eq_false h]; simp
theorem toList_backR {a b : ByteArray} (h : a.toList = b.toList) : a = b := by
  rw [ByteArray.toList_eq, ByteArray.toList_eq] at h
  cases a; cases b
  simpa using Array.toList_inj.1 h
set_option maxHeartbeats 1000000 in
theorem str_Index (w : World) (a : Option Addr) (n c : Nat) (xs : List ByteArray) (s : ByteArray) (B : Nat) (h : Txts w B a n xs) (hB : B ≤ w.heap.size) :
    Calls Tryz.prog 13 #[.slice a n c, .string s] w fun e w' => e = .returned (.int .i64 (idxS s xs 0)) ∧ w = w' := by
  have L1 := Lib.hid h.1
  have m1 := h.2.1
  have H := Lib.hid h; clear h
  go_enter Tryz.func13, Tryz.ntmps13
  go_wp2_with fail
  go_loop [5, 8] (fun _ i => ∃ k : Nat, k ≤ n ∧ i = .int .i64 k ∧ idxS s (xs.drop k) k = idxS s xs 0) (fun _ i => n - (intOf i).toNat)
  case atStart => exact ⟨0, by omega, rfl, rfl⟩
  case round =>
    obtain ⟨k, hk, rfl, hall⟩ := hrel
    have HA := Lib.hid hall; clear hall
    by_cases hlt : k < n
    · obtain ⟨b1, o1, x, rfl, hb1, hc1, hx⟩ := txts_at H.out hlt
      have HN := Lib.hid ((congrArg (fun l => idxS s l k) (drop_rowR hx)).symm.trans HA.out)
      clear hx
      have hbz : b1 < w.heap.size := by omega
      by_cases hq : s = x
      · have HF := Lib.hid (show (k : Int) = idxS s xs 0 by rw [← HN.out, idxS_cons, if_pos hq])
        have hb : (s.toList == x.toList) = true := by simp [hq]
        clear hq HN
        go_wp2_with fail
        go_ret
        exact ⟨by rw [← HF.out]; rfl, rfl⟩
      · have HF := Lib.hid (show idxS s (xs.drop (k + 1)) (k + 1) = idxS s xs 0 by rw [← HN.out, idxS_cons, if_neg hq])
        have hb : (s.toList == x.toList) = false := by
          rw [beq_eq_false_iff_ne]; exact fun e => hq (toList_backR e)
        clear hq HN
        go_wp2_with fail
        go_round
        case rel => exact ⟨k + 1, by omega, by go_num, HF.out⟩
        case measure => first | (simp [intOf]; done) | (simp [intOf]; omega)
    · have HE := Lib.hid (show idxS s xs 0 = -1 by
        rw [← HA.out, List.drop_eq_nil_of_le (by have := L1.out; omega)]; rfl)
      go_wp2_with fail
      go_ret
      exact ⟨by rw [HE.out]; rfl, rfl⟩
theorem pairsR_step (st : Tl) (w : List (List UInt8)) (i : Nat) (k v : List UInt8) (h1 : w[i]? = some k) (h2 : w[i + 1]? = some v) : pairsR st (w.drop i) = pairsR (stepR st k v) (w.drop (i + 2)) := by
  obtain ⟨l1, rfl⟩ := List.getElem?_eq_some_iff.1 h1
  obtain ⟨l2, rfl⟩ := List.getElem?_eq_some_iff.1 h2
  rw [List.drop_eq_getElem_cons l1, List.drop_eq_getElem_cons l2, pairsR]
theorem pairsR_end (st : Tl) (w : List (List UInt8)) (i : Nat) (h : w.length ≤ i + 1) : pairsR st (w.drop i) = st := by
  rcases Nat.lt_or_ge i w.length with hl | hl
  · have e : w.drop i = [w[i]] := by
      rw [List.drop_eq_getElem_cons hl, List.drop_eq_nil_of_le (by omega)]
    rw [e]; rfl
  · rw [List.drop_eq_nil_of_le hl]; rfl
/-- The five words of the units. -/
theorem idx_units (t : ByteArray) : idxS t [⟨#[]⟩, ⟨#[100, 97, 121]⟩, ⟨#[119, 101, 101, 107]⟩, ⟨#[109, 111, 110, 116, 104]⟩, ⟨#[121, 101, 97, 114]⟩] 0 = idxU t.data.toList := by
  have key : ∀ l : List UInt8, (t = ⟨l.toArray⟩) ↔ t.data.toList = l := fun l => by
    constructor
    · rintro rfl; simp
    · intro h; apply ByteArray.ext; apply Array.toList_inj.1; rw [h]
  rw [idxS_cons, idxS_cons, idxS_cons, idxS_cons, idxS_cons]
  unfold idxU
  simp only [show (t = (⟨#[]⟩ : ByteArray)) = (t.data.toList = []) from propext (key []), show (t = (⟨#[100, 97, 121]⟩ : ByteArray)) = (t.data.toList = [100, 97, 121]) from propext (key [100, 97, 121]), show (t = (⟨#[119, 101, 101, 107]⟩ : ByteArray)) = (t.data.toList = [119, 101, 101, 107]) from propext (key [119, 101, 101, 107]), show (t = (⟨#[109, 111, 110, 116, 104]⟩ : ByteArray)) = (t.data.toList = [109, 111, 110, 116, 104]) from propext (key [109, 111, 110, 116, 104]), show (t = (⟨#[121, 101, 97, 114]⟩ : ByteArray)) = (t.data.toList = [121, 101, 97, 114]) from propext (key [121, 101, 97, 114])]
  rfl
end Go.Proofs.YtdmkghgachapaaaGreatDoor

/- recur.Parse, plain: the error of a text; what is printed is read. -/
namespace Go.Proofs.YtdmkghgachapaaaGreatDoor
set_option linter.unusedVariables false
set_option linter.unusedSimpArgs false
set_option maxRecDepth 100000
open Go.RowKit

/-- The text that the fields read off a text would have. -/
def backS (S : List UInt8) : List UInt8 := recS (rawR S).1 (rawR S).2.1 (rawR S).2.2.1 (rawR S).2.2.2.2.1 (rawR S).2.2.2.1 (rawR S).2.2.2.2.2.1 (rawR S).2.2.2.2.2.2.1 (rawR S).2.2.2.2.2.2.2
def rawE (S : List UInt8) : Int := recurErr (rawR S).1 (rawR S).2.1 (rawR S).2.2.1 (rawR S).2.2.2.2.1 (rawR S).2.2.2.1 (rawR S).2.2.2.2.2.1 (rawR S).2.2.2.2.2.2.1 (rawR S).2.2.2.2.2.2.2
/-- The error of recur.Parse. -/
def parseE (S : List UInt8) : Int := if (spl 32 S).length < 7 then 4 else if (rawR S).1 < 1 then 4 else if backS S ≠ S then 4 else rawE S
theorem recS_words (u ev f cn un : Int) (ws ms ns : List Int) : 7 ≤ (spl 32 (recS u ev f cn un ws ms ns)).length := by
  rw [recS_pieces]
  unfold recP
  simp only [List.length_cons, List.length_append]
  omega
theorem parse_print {u ev f cn un : Int} {ws ms ns : List Int} (he : I64 ev) (hf : I64 f) (hc : I64 cn) (hu : I64 un) (hw : ∀ x ∈ ws, I64 x) (hm : ∀ x ∈ ms, I64 x) (hn : ∀ x ∈ ns, I64 x) (h0 : recurErr u ev f cn un ws ms ns = 0) :
    parseE (recS u ev f cn un ws ms ns) = 0 ∧ rawR (recS u ev f cn un ws ms ns) = (u, ev, f, un, cn, ws, ms, ns) := by
  obtain ⟨u1, u2, _⟩ := recurErr_unit h0
  have hr := raw_recS u1 u2 he hf hc hu hw hm hn
  have hb : backS (recS u ev f cn un ws ms ns) = recS u ev f cn un ws ms ns := by unfold backS; rw [hr]
  refine ⟨?_, hr⟩
  unfold parseE
  rw [if_neg (by have := recS_words u ev f cn un ws ms ns; omega), if_neg (by rw [hr]; show ¬ u < 1; omega), if_neg (fun h => h hb)]
  unfold rawE
  rw [hr]
  exact h0
/-- The law's fixed text. -/
def monthlyS : List UInt8 := [101, 118, 101, 114, 121, 32, 49, 32, 109, 111, 110, 116, 104, 32, 102, 114, 111, 109, 32, 49, 32, 117, 110, 116, 105, 108, 32, 49, 48, 48, 32, 109, 111, 110, 116, 104, 100, 97, 121, 115, 32, 45, 49]
theorem monthly_ok : parseE monthlyS = 0 ∧ rawR monthlyS = (3, 1, 1, 100, 0, [], [-1], []) := ⟨by decide +kernel, by kernel_rfl⟩
theorem parse_ok {S : List UInt8} (h : parseE S = 0) : 1 ≤ (rawR S).1 ∧ backS S = S ∧ rawE S = 0 := by
  unfold parseE at h
  split at h
  · omega
  split at h
  · omega
  rename_i h1
  split at h
  · omega
  rename_i h2
  exact ⟨by omega, by simpa using h2, h⟩
end Go.Proofs.YtdmkghgachapaaaGreatDoor
