import Derived.Test.YtdmkghgachapaabGreatDoorMgFb
import Derived.Test.YtdmkghgachapaabGreatDoorMgFa
import Derived.Test.YtdmkghgachapaabGreatDoorMgD
import Derived.Test.YtdmkghgachapaabGreatDoorName
import Derived.Test.YtdmkghgachapaabGreatDoorStrsIn
import Derived.Test.YtdmkghgachapaabGreatDoorLayIn
namespace Go.Proofs.YtdmkghgachapaabGreatDoor
set_option linter.unusedVariables false
set_option linter.unusedSimpArgs false
set_option maxRecDepth 100000
open Go.RowKit Go.ChangeShapes Go.WideShapes Go.Deep Go.Shelf
def Feasts (w : World) (B : Nat) (a : Option Addr) (n : Nat) (ts : List Fst) : Prop := ts.length = n ∧ n ≤ 9223372036854775807 ∧ (0 < n → ∃ b off, a = some ⟨b, off, none⟩ ∧ b < B ∧ FRow w B ts b off)
theorem Feasts.then_ {w w' : World} {a : Option Addr} {n : Nat} {ts : List Fst} (h : Feasts w w.heap.size a n ts) (hb : Below w.heap.size w w') : Feasts w' w'.heap.size a n ts :=
  ⟨h.1, h.2.1, fun hn => by
    obtain ⟨b, off, e, hlt, hr⟩ := h.2.2 hn
    exact ⟨b, off, e, by have := hb.size; omega, FRow.move hb (Nat.le_refl _) hb.size ts b off hlt hr⟩⟩
theorem open_Feasts {H : Type} {enc : TypeId × Value → H} {W : World} {fuel : Nat} {v : Value} {x : DataW H × List MemPlace}
    (h : DataW.trod enc Tryz.prog W 0 (fun _ => true) true fuel 23 [v] = some x) : ∃ a n c ts, v = .slice a n c ∧ n ≤ c ∧ c ≤ 9223372036854775807 ∧ Feasts W W.heap.size a n ts := by
  rcases DataW.trod_slice Tryz.underlying23 h with ⟨hcs, _⟩ | ⟨a, len, cap, elems, rest, n', hn', hcs, _, hb, hlc, hcm, hlen', hel, _⟩
  · simp at hcs
    subst hcs
    exact ⟨none, 0, 0, [], rfl, by omega, by omega, rfl, by omega, fun h => absurd h (by omega)⟩
  · simp at hcs
    subst hcs
    unfold maxLen at hcm
    obtain ⟨b, off, spot⟩ := a
    have hrow : ∀ i, i < len → ∃ t : Fst, ∃ a n c, W.cell? ((⟨b, off, spot⟩ : Addr).add (i * 5)) = some (.int .i64 t.kind) ∧ W.cell? ((⟨b, off, spot⟩ : Addr).add (i * 5 + 1)) = some (.int .i64 t.va) ∧ W.cell? ((⟨b, off, spot⟩ : Addr).add (i * 5 + 2)) = some (.int .i64 t.vb) ∧ W.cell? ((⟨b, off, spot⟩ : Addr).add (i * 5 + 3)) = some (.string t.nm) ∧ W.cell? ((⟨b, off, spot⟩ : Addr).add (i * 5 + 4)) = some (.slice a n c) ∧ n ≤ c ∧ c ≤ 9223372036854775807 ∧ FSub W W.heap.size t a n := by
      intro i hi
      have key := hel i hi
      rw [fcells_F, List.getElem?_eq_getElem (by omega)] at key
      obtain ⟨cs', hc1, hc2⟩ := Option.bind_eq_some_iff.1 key
      obtain ⟨t, a', n1, c1, rfl, q1, q2, q3⟩ := open_fst n' n' (Nat.le_refl _) cs' _ hc2
      obtain ⟨_, _, hat⟩ := World.cells?_some hc1
      have z0 := hat 0 (by omega)
      have z1 := hat 1 (by omega)
      have z2 := hat 2 (by omega)
      have z3 := hat 3 (by omega)
      have z4 := hat 4 (by omega)
      rw [Go.Deep.add_add] at z0 z1 z2 z3 z4
      exact ⟨t, a', n1, c1, by simpa using z0, by simpa using z1, by simpa using z2, by simpa using z3, by simpa using z4, q1, q2, q3⟩
    obtain ⟨ts, ht1, ht2⟩ := listOf hrow
    refine ⟨some ⟨b, off, spot⟩, len, cap, ts, rfl, hlc, by omega, ht1, by omega, fun h0 => ?_⟩
    obtain ⟨t0, _, _, _, hc0, _⟩ := hrow 0 h0
    have hspot : spot = none := by simpa [Addr.add] using World.cell?_spot hc0
    subst hspot
    have hbl : b < W.heap.size := by
      rcases Nat.lt_or_ge b W.heap.size with h' | h'
      · exact h'
      · simp [World.cell?, Addr.add, Array.getElem?_eq_none h'] at hc0
    refine ⟨b, off, rfl, hbl, FRow.of ts off fun i t hi => ?_⟩
    obtain ⟨a', n1, cc, c0, c1, c2, c3, c4, q1, q2, q3⟩ := ht2 i t hi
    rw [add_none] at c0 c1 c2 c3 c4
    exact ⟨a', n1, cc, ⟨c0, by rw [Nat.add_assoc]; exact c1, by rw [Nat.add_assoc]; exact c2, by rw [Nat.add_assoc]; exact c3, by rw [Nat.add_assoc]; exact c4, q1, q2⟩, q3⟩
theorem open_Plan {H : Type} {enc : TypeId × Value → H} {v : Value} {d : DataW H} {p : List MemPlace} {base : Nat} {W : World}
    (o : Value.okWide Tryz.prog W .any base 25 v) (h : DataW.Trod enc Tryz.prog W 0 (fun _ => true) true 25 v d p) :
    ∃ a1 n1 c1 cs a2 n2 c2 ts a3 n3 c3 fs, v = .agg #[.slice a1 n1 c1, .slice a2 n2 c2, .slice a3 n3 c3] ∧ n1 ≤ c1 ∧ c1 ≤ 9223372036854775807 ∧ Strs W W.heap.size a1 n1 cs ∧ n2 ≤ c2 ∧ c2 ≤ 9223372036854775807 ∧ Strs W W.heap.size a2 n2 ts ∧ n3 ≤ c3 ∧ c3 ≤ 9223372036854775807 ∧ Feasts W W.heap.size a3 n3 fs := by
  obtain ⟨cs, n, rfl, hl, hf⟩ := open_agg Tryz.underlying25 (by kernel_rfl) (by kernel_rfl) o h
  match cs, hl with
  | [v0, v1, v2], _ =>
    obtain ⟨_, _, e0, t0⟩ := hf 0 _ rfl
    obtain ⟨_, _, e1, t1⟩ := hf 1 _ rfl
    obtain ⟨_, _, e2, t2⟩ := hf 2 _ rfl
    obtain ⟨a1, n1, c1, ss, rfl, k1, m1, h1⟩ := open_Strs t0
    obtain ⟨a2, n2, c2, ts, rfl, k2, m2, h2⟩ := open_Strs t1
    obtain ⟨a3, n3, c3, fs, rfl, k3, m3, h3⟩ := open_Feasts t2
    simp at e0 e1 e2
    subst e0 e1 e2
    exact ⟨a1, n1, c1, ss, a2, n2, c2, ts, a3, n3, c3, fs, rfl, k1, m1, h1, k2, m2, h2, k3, m3, h3⟩
def calKn (s : ByteArray) : Bool := namesL.contains s.data.toList
def namesBF : List ByteArray := namesL.map fun l => ⟨l.toArray⟩
theorem namesBF_len : namesBF.length = 40 := by rw [namesBF, List.length_map, names_len]
theorem namesBF_any (s : ByteArray) : Lib.containsS (namesBF.take 40) s = calKn s := by
  rw [List.take_of_length_le (by rw [namesBF_len]; omega), Bool.eq_iff_iff, Lib.containsS_iff]
  unfold namesBF calKn
  rw [List.contains_iff_mem, List.mem_map]
  constructor
  · rintro ⟨x, hx, rfl⟩
    simpa using hx
  · intro h
    exact ⟨_, h, by simp⟩
theorem textsF_some : ∀ i, i < 40 → textsL[i]?.getD [] ≠ [] := by decide +kernel
theorem textF_nil (s : ByteArray) : textOf s.data.toList = [] ↔ calKn s = false := by
  unfold textOf calKn
  constructor
  · intro h
    by_cases hc : namesL.contains s.data.toList = true
    · have hlt : namesL.findIdx (· == s.data.toList) < 40 := by
        rw [← names_len, List.findIdx_lt_length]
        exact ⟨_, List.contains_iff_mem.1 hc, by simp⟩
      exact absurd h (textsF_some _ hlt)
    · simpa using hc
  · intro h
    have hi : namesL.findIdx (· == s.data.toList) = 40 := by
      rw [← names_len, List.findIdx_eq_length]
      intro x hx
      rw [beq_eq_false_iff_ne]
      intro e
      subst e
      rw [List.contains_iff_mem.2 hx] at h
      cases h
    rw [hi]
    rfl
def resL : List ByteArray := [⟨#[100, 97, 121]⟩, ⟨#[119, 101, 101, 107, 100, 97, 121]⟩, ⟨#[102, 101, 97, 115, 116, 115]⟩, ⟨#[114, 105, 115, 101]⟩, ⟨#[115, 101, 116]⟩, ⟨#[109, 111, 111, 110]⟩]
theorem res_free : ∀ s ∈ resL, calKn s = false := by decide +kernel
theorem res_cal {s : ByteArray} (h : calKn s = true) : Lib.containsS resL s = false := by
  cases hc : Lib.containsS resL s
  · rfl
  · have := res_free s ((Lib.containsS_iff _ _).1 hc)
    rw [h] at this; cases this
def calsE (cs : List ByteArray) : Nat → List ByteArray → Int
  | _, [] => 0
  | i, c :: r => if calKn c = false then 5 else if Lib.containsS (cs.take i) c = true then 7 else calsE cs (i + 1) r
theorem calsE_cons (cs : List ByteArray) (i : Nat) (c : ByteArray) (r : List ByteArray) : calsE cs i (c :: r) = if calKn c = false then 5 else if Lib.containsS (cs.take i) c = true then 7 else calsE cs (i + 1) r := by rw [calsE.eq_def]
def titE : List ByteArray → Int
  | [] => 0
  | t :: r => if isName t = false then 5 else titE r
theorem titE_cons (t : ByteArray) (r : List ByteArray) : titE (t :: r) = if isName t = false then 5 else titE r := by rw [titE.eq_def]
def feaE : List Fst → Int
  | [] => 0
  | f :: r => if fstErr f ≠ 0 then fstErr f else feaE r
theorem feaE_cons (f : Fst) (r : List Fst) : feaE (f :: r) = if fstErr f ≠ 0 then fstErr f else feaE r := by rw [feaE.eq_def]
def planE (cs ts : List ByteArray) (fs : List Fst) : Int :=
  if 8 < cs.length ∨ 20 < fs.length then 2 else if ts.length ≠ fs.length then 8 else if calsE cs 0 cs ≠ 0 then calsE cs 0 cs else if titE ts ≠ 0 then titE ts else feaE fs
theorem dropF {α : Type} {xs : List α} {k : Nat} {x : α} (h : xs[k]? = some x) : xs.drop k = x :: xs.drop (k + 1) := by
  obtain ⟨hl, rfl⟩ := List.getElem?_eq_some_iff.1 h
  exact List.drop_eq_getElem_cons hl
theorem Strs.then_ {w w' : World} {a : Option Addr} {n : Nat} {ss : List ByteArray} (h : Strs w w.heap.size a n ss) (hb : Below w.heap.size w w') : Strs w' w'.heap.size a n ss := (h.below hb (Nat.le_refl _)).of_le hb.size
theorem Strs.get {w : World} {B : Nat} {a : Option Addr} {n : Nat} {ss : List ByteArray} (h : Strs w B a n ss) {k : Nat} (hk : k < n) :
    ∃ b off s, a = some ⟨b, off, none⟩ ∧ b < B ∧ w.cell? ⟨b, off + k, none⟩ = some (.string s) ∧ ss[k]? = some s ∧ s.size ≤ 9223372036854775807 := by
  obtain ⟨b, off, e, hb, hc⟩ := h.2.2.2 (by omega)
  have hl : k < ss.length := by rw [h.1]; exact hk
  have h1 := hc k hk
  have hx := List.getElem?_eq_getElem hl
  rw [List.getD_eq_getElem?_getD, hx] at h1
  exact ⟨b, off, ss[k], e, hb, h1, hx, h.2.2.1 _ (List.getElem_mem hl)⟩
theorem lib_ContainsK (w : World) (a : Option Addr) (n k c : Nat) (ss : List ByteArray) (s : ByteArray) (h : Strs w w.heap.size a n ss) (hk : k ≤ n) (hc : k ≤ c) :
    Calls Tryz.prog 15 #[.slice a k c, .string s] w fun e w' => e = .returned (.bool (Lib.containsS (ss.take k) s)) ∧ w' = w := by
  rcases Nat.eq_zero_or_pos n with h0 | h0
  · have : k = 0 := by omega
    subst this
    exact Any.slices_Contains_string_empty Tryz.laysn110 a c s w
  · obtain ⟨b, off, rfl, hb, hcell⟩ := h.2.2.2 h0
    exact Any.slices_Contains_string Tryz.laysn110 b off k c ss s w (by rw [h.1]; exact hk) (by have := h.2.1; omega) (fun j hj => hcell j (by rw [← h.1]; exact hj))
end Go.Proofs.YtdmkghgachapaabGreatDoor
