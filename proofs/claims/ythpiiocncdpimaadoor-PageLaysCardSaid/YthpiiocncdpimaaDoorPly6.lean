/- Pages, plain and in memory: what the walks of page.Lay and of the reference share. -/
import Derived.Test.YthpiiocncdpimaaDoorPly5
import Derived.Test.YthpiiocncdpimaaDoorStrs
import Derived.Test.YthpiiocncdpimaaDoorLayText
import Derived.Lib.ItoaLen
import Derived.Lib.AppendIntMem
import Derived.Lib.LaidTab
namespace Go.Proofs.YthpiiocncdpimaaDoor
set_option linter.unusedVariables false
set_option linter.unusedSimpArgs false
set_option maxRecDepth 100000
open Go.RowKit Go.Shelf

theorem stGo_in : ∀ (ws : List Nat) (w0 width i used : Nat) (acc : List Nat), 1 ≤ i → (∀ s ∈ acc, 1 ≤ s ∧ s ≤ i + ws.length) → ∀ s ∈ stGo w0 width ws i used acc, 1 ≤ s ∧ s ≤ i + ws.length
  | [], w0, width, i, used, acc, hi, h => by rw [stGo]; simpa using h
  | x :: r, w0, width, i, used, acc, hi, h => by
    rw [stGo_cons]
    have e : i + (x :: r).length = (i + 1) + r.length := by rw [List.length_cons]; omega
    rw [e] at h ⊢
    split
    · refine stGo_in r _ _ _ _ _ (by omega) fun s hs => ?_
      rcases List.mem_append.1 hs with hs | hs
      · exact h s hs
      · rw [List.mem_singleton] at hs; subst hs; omega
    · exact stGo_in r _ _ _ _ _ (by omega) h
theorem stsO_in {Ws : List Nat} {width : Nat} (h : 1 ≤ Ws.length) : ∀ s ∈ stsO Ws width, 1 ≤ s ∧ s ≤ Ws.length := by
  have := stGo_in (Ws.drop 1) (Ws.getD 0 0) width 1 (Ws.getD 0 0) [1] (Nat.le_refl _) (fun s hs => by rw [List.mem_singleton] at hs; subst hs; omega)
  intro s hs
  have h2 := this s hs
  rw [List.length_drop] at h2
  omega
theorem grps_in : ∀ (l : List Nat) (e : Nat), (∀ s ∈ l, 1 ≤ s ∧ s ≤ e) → ∀ cs ∈ grps l e, cs.length ≤ e + 1 ∧ ∀ c ∈ cs, c ≤ e ∧ (1 ≤ e → c < e)
  | [], e, _, cs, h => by cases h
  | [s], e, hl, cs, h => by
    rw [grps, List.mem_singleton] at h
    subst h
    have hs := hl s (by simp)
    refine ⟨by rw [List.length_cons, List.length_range']; omega, fun c hc => ?_⟩
    rcases List.mem_cons.1 hc with rfl | hc
    · omega
    · have := List.mem_range'_1.1 hc; omega
  | s :: t :: r, e, hl, cs, h => by
    rw [grps] at h
    have hs := hl s (by simp)
    have ht := hl t (by simp)
    rcases List.mem_cons.1 h with rfl | h
    · refine ⟨by rw [List.length_cons, List.length_range']; omega, fun c hc => ?_⟩
      rcases List.mem_cons.1 hc with rfl | hc
      · omega
      · have := List.mem_range'_1.1 hc; omega
    · exact grps_in (t :: r) e (fun x hx => hl x (by simp at hx ⊢; rcases hx with rfl | hx <;> simp [*])) cs h
theorem grps_len1 : ∀ (l : List Nat) (e : Nat), (∀ s ∈ l, 1 ≤ s ∧ s ≤ e) → ∀ cs ∈ grps l e, cs.length ≤ e
  | [], e, _, cs, h => by cases h
  | [s], e, hl, cs, h => by
    rw [grps, List.mem_singleton] at h
    subst h
    have hs := hl s (by simp)
    rw [List.length_cons, List.length_range']; omega
  | s :: t :: r, e, hl, cs, h => by
    rw [grps] at h
    have hs := hl s (by simp)
    have ht := hl t (by simp)
    rcases List.mem_cons.1 h with rfl | h
    · rw [List.length_cons, List.length_range']; omega
    · exact grps_len1 (t :: r) e (fun x hx => hl x (by simp at hx ⊢; rcases hx with rfl | hx <;> simp [*])) cs h
theorem stGo_len : ∀ (ws : List Nat) (w0 width i used : Nat) (acc : List Nat), (stGo w0 width ws i used acc).length ≤ acc.length + ws.length ∧ acc.length ≤ (stGo w0 width ws i used acc).length
  | [], _, _, _, _, acc => by rw [stGo]; exact ⟨Nat.le_refl _, Nat.le_refl _⟩
  | x :: r, w0, width, i, used, acc => by
    rw [stGo_cons]
    split
    · have := stGo_len r w0 width (i + 1) (w0 + 2 + x) (acc ++ [i])
      rw [List.length_append] at this
      simp at this ⊢; omega
    · have := stGo_len r w0 width (i + 1) (used + 2 + x) acc
      simp at this ⊢; omega
theorem stsO_len {Ws : List Nat} {width : Nat} (h : 1 ≤ Ws.length) : 1 ≤ (stsO Ws width).length ∧ (stsO Ws width).length ≤ Ws.length := by
  have := stGo_len (Ws.drop 1) (Ws.getD 0 0) width 1 (Ws.getD 0 0) [1]
  rw [List.length_drop] at this
  unfold stsO
  simp at this ⊢; omega

/-! Pages by what is left. -/
theorem pgF_succ (hl : List UInt8) (ln : List ByteArray → List UInt8) (h f : Nat) (rs : List (List ByteArray)) : pgF hl ln h (f + 1) rs = (hl ++ (rs.take h).flatMap ln) :: (if rs.drop h = [] then [] else pgF hl ln h f (rs.drop h)) := by rw [pgF]
theorem pgF_fuel (hl : List UInt8) (ln : List ByteArray → List UInt8) (h : Nat) (h1 : 1 ≤ h) : ∀ (f g : Nat) (rs : List (List ByteArray)), rs.length < f → rs.length < g → pgF hl ln h f rs = pgF hl ln h g rs
  | 0, _, rs, hf, _ => by omega
  | f + 1, 0, rs, _, hg => by omega
  | f + 1, g + 1, rs, hf, hg => by
    rw [pgF_succ, pgF_succ]
    congr 1
    split
    · rfl
    · rename_i hne
      have hl2 : (rs.drop h).length < rs.length := by
        rw [List.length_drop]
        have : rs ≠ [] := fun e => hne (by rw [e]; simp)
        have := List.length_pos_iff.2 this
        omega
      exact pgF_fuel hl ln h h1 f g _ (by omega) (by omega)
def pgR (hl : List UInt8) (ln : List ByteArray → List UInt8) (h : Nat) (first : Bool) (rs : List (List ByteArray)) : List (List UInt8) := if first = false ∧ rs = [] then [] else pgF hl ln h (rs.length + 1) rs
theorem pgR_end (hl : List UInt8) (ln : List ByteArray → List UInt8) (h : Nat) : pgR hl ln h false [] = [] := by unfold pgR; rw [if_pos ⟨rfl, rfl⟩]
theorem pgR_step (hl : List UInt8) (ln : List ByteArray → List UInt8) (h : Nat) (h1 : 1 ≤ h) (first : Bool) (rs : List (List ByteArray)) (hne : first = true ∨ rs ≠ []) : pgR hl ln h first rs = (hl ++ (rs.take h).flatMap ln) :: pgR hl ln h false (rs.drop h) := by
  have hnot : ¬ (first = false ∧ rs = []) := fun ⟨e1, e2⟩ => hne.elim (fun e => by rw [e1] at e; cases e) (fun e => e e2)
  unfold pgR
  rw [if_neg hnot, pgF_succ]
  congr 1
  by_cases hd : rs.drop h = []
  · rw [if_pos hd, if_pos ⟨rfl, hd⟩]
  · rw [if_neg hd, if_neg (fun e => hd e.2)]
    refine pgF_fuel hl ln h h1 _ _ _ ?_ (Nat.lt_succ_self _)
    rw [List.length_drop]
    have : rs ≠ [] := fun e => hd (by rw [e]; simp)
    have := List.length_pos_iff.2 this
    omega
theorem pgF_len (hl : List UInt8) (ln : List ByteArray → List UInt8) (h : Nat) : ∀ (f : Nat) (rs : List (List ByteArray)), (pgF hl ln h f rs).length ≤ f
  | 0, _ => by rw [pgF]; simp
  | f + 1, rs => by
    rw [pgF_succ, List.length_cons]
    split
    · simp
    · have := pgF_len hl ln h f (rs.drop h); omega
theorem flat_len {α β : Type} (f : α → List β) (B : Nat) : ∀ l : List α, (∀ x ∈ l, (f x).length ≤ B) → (l.flatMap f).length ≤ l.length * B
  | [], _ => by simp
  | x :: l, h => by
    rw [List.flatMap_cons, List.length_append, List.length_cons, Nat.succ_mul]
    have := flat_len f B l fun y hy => h y (by simp [hy])
    have := h x (by simp)
    omega
theorem bodyO_len {hd : List ByteArray} {rs : List (List ByteArray)} (t : TOk hd rs) (wd h : Nat) : (bodyO hd rs wd h).length ≤ 5000 := by
  unfold bodyO
  have hl : (wdsO hd.length (hd :: rs)).length = hd.length := by unfold wdsO; simp
  have h1 := stsO_len (Ws := wdsO hd.length (hd :: rs)) (width := wd) (by rw [hl]; exact t.lo)
  rw [hl] at h1
  refine Nat.le_trans (flat_len _ 401 _ fun cs _ => ?_) ?_
  · unfold pagesG
    exact Nat.le_trans (pgF_len _ _ _ _ _) (by have := t.few; omega)
  · rw [grps_len]
    have := t.hi
    exact Nat.le_trans (Nat.mul_le_mul_right 401 (show (stsO (wdsO hd.length (hd :: rs)) wd).length ≤ 12 by omega)) (by decide)
theorem txtO_len {Ws : List Nat} {T : Nat → ByteArray} {cs : List Nat} (hW : ∀ c, Ws.getD c 0 ≤ 200) (hT : ∀ c ∈ cs, (T c).size ≤ 200) (hl : cs.length ≤ 12) : (txtO Ws T cs).length ≤ 6001 := by
  unfold txtO
  rw [List.length_append]
  have h1 := trimO_le (lineP Ws T true cs)
  have h2 := lineP_len Ws T hW cs true hT
  simp; omega
theorem numrows_ints {W : World} {O : Nat} {gs : List (List Nat)} (h : NumRows W O gs) {i : Nat} (hi : i < gs.length) (hs : ∀ c ∈ gs.getD i [], c ≤ 1000000) (hl : (gs.getD i []).length ≤ 1000000) :
    ∃ b c, W.cell? ⟨O, i, none⟩ = some (.slice (some ⟨b, 0, none⟩) (gs.getD i []).length c) ∧ (gs.getD i []).length ≤ c ∧ c ≤ 9223372036854775807 ∧ b < W.heap.size ∧ Ints W W.heap.size (some ⟨b, 0, none⟩) (gs.getD i []).length (nz (gs.getD i [])) := by
  obtain ⟨b, c, q1, q2, q3, q4, q5⟩ := h.2 i hi
  refine ⟨b, c, q1, q2, q3, q4, by simp, by omega, fun x hx => ?_, fun _ => ⟨b, 0, rfl, q4, fun j hj => ?_⟩⟩
  · obtain ⟨y, hy, rfl⟩ := List.mem_map.1 hx
    have := hs y hy
    exact ⟨by omega, by omega⟩
  · rw [Nat.zero_add, q5 j hj, nz_get _ _ hj]
/-- Powers of ten, and Itoa. -/
theorem var_below {P : Program} {n : String} {cs : Array Value} {w w' : World} (h : w.var? P n = some cs) (hb : Below w.heap.size w w') : w'.var? P n = some cs := by
  unfold World.var? at h ⊢
  rcases hg : P.globalNamed n with _ | g
  · rw [hg] at h; cases h
  · rw [hg] at h
    simp only [Option.bind_some] at h ⊢
    have hlt : g < w.heap.size := by
      rcases Nat.lt_or_ge g w.heap.size with h' | h'
      · exact h'
      · rw [Array.getElem?_eq_none h'] at h; cases h
    rw [hb.block g hlt]
    exact h
def Pow (w : World) : Prop := Lib.TabIs Tryd.prog w "internal/strconv.uint64pow10" .u64 Lib.pow10Tab
theorem Pow.below {w w' : World} (h : Pow w) (hb : Below w.heap.size w w') : Pow w' := var_below h hb
theorem lib_Itoa (n : Int) (w : World) (h0 : -9223372036854775808 ≤ n) (h1 : n ≤ 9223372036854775807) (ht : Pow w) :
    Calls Tryd.prog 16 #[.int .i64 n] w fun e w' => e = .returned (.string ⟨(Lib.itoa n).toArray⟩) ∧ Below w.heap.size w w' :=
  (Any.strconv_Itoa Tryd.laysLaysMn171 n h0 h1 w ht).mono fun e w' ⟨he, k, os, hw⟩ => ⟨he, hw ▸ Lib.below_grow _ w (Nat.le_refl _) k os⟩
/-- What page.Lay answers. -/
def layR (hd : List ByteArray) (rs : List (List ByteArray)) (width height : Int) : List (List UInt8) × Int :=
  if tblErr 7 hd rs ≠ 0 then ([], tblErr 7 hd rs) else if ¬ (20 ≤ width ∧ width ≤ 200 ∧ 4 ≤ height ∧ height ≤ 100) then ([], 3)
  else if fitB (wdsO hd.length (hd :: rs)) width.toNat = true then (layO hd rs width.toNat (height - 3).toNat, 0) else ([], 2)
def txts (l : List (List UInt8)) : List ByteArray := l.map fun p => ⟨p.toArray⟩
def LayPost (r : List (List UInt8) × Int) (w : World) (e : Ending) (w' : World) : Prop :=
  ∃ a c, e = .returned (.tuple #[.slice a r.1.length c, .int .i64 r.2]) ∧ r.1.length ≤ c ∧ c ≤ 9223372036854775807 ∧ Strs w' w'.heap.size a r.1.length (txts r.1) ∧ Below w.heap.size w w'
theorem strs_none (w : World) (B : Nat) : Strs w B none 0 [] := ⟨rfl, by omega, by simp, fun h => absurd h (by omega)⟩
end Go.Proofs.YthpiiocncdpimaaDoor
