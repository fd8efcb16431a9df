/- The changes of several years, plain; contract of slices.Clone at []ZoneChange. -/
import Derived.Test.YtjpbkkoflaajcabDoorFore6
import Derived.Test.YtjpbkkoflaajcabDoorZone5
namespace Go.Proofs.YtjpbkkoflaajcabDoor
set_option linter.unusedVariables false
set_option maxRecDepth 100000
open Go.RowKit greg

theorem chg_split (ms : List Chg) (k : Nat) (v : Value) (h : (ms.flatMap encChg)[k]? = some v) : ∃ x, ms[k / 3]? = some x ∧ (encChg x)[k % 3]? = some v := by
  have hk : k < ms.length * 3 := by
    rcases Nat.lt_or_ge k (ms.length * 3) with h' | h'
    · exact h'
    · rw [List.getElem?_eq_none (by rw [chg_len]; exact h')] at h; cases h
  have hx : ms[k / 3]? = some (ms[k / 3]'(by omega)) := List.getElem?_eq_getElem (by omega)
  refine ⟨_, hx, ?_⟩
  have hv : (encChg (ms[k / 3]'(by omega)))[k % 3]? = some ((encChg (ms[k / 3]'(by omega)))[k % 3]'(by simp [encChg]; omega)) := List.getElem?_eq_getElem _
  have := chg_at ms (k / 3) _ (k % 3) _ hx hv
  rw [show k / 3 * 3 + k % 3 = k by omega, h] at this
  rw [hv, this]
theorem chg_one {ms : List Chg} {u : Value} (hu : u ∈ ms.flatMap encChg) : u.oneCell' = true := by
  obtain ⟨x, _, hx⟩ := List.mem_flatMap.1 hu
  simp [encChg] at hx
  rcases hx with rfl | rfl | rfl <;> rfl
/-- The cells of a row of changes, for an append. -/
theorem changes_news {w : World} {B : Nat} {ad : Addr} {n : Nat} {xs : List Chg} (h : Changes w B (some ad) n xs) : ∀ j u, (xs.flatMap encChg)[j]? = some u → w.cell? (ad.add j) = some u := by
  intro j u hj
  obtain ⟨x, hx, hu⟩ := chg_split xs j u hj
  have hn : 0 < n := by
    have := h.len
    rcases Nat.eq_zero_or_pos n with h0 | h0
    · rw [List.length_eq_zero_iff.1 (by omega : xs.length = 0)] at hx; simp at hx
    · exact h0
  obtain ⟨b, off, e, _, hc⟩ := h.1.2.2 hn
  injection e with e
  subst e
  have h1 := hc _ x hx _ u hu
  rw [show off + j / 3 * 3 + j % 3 = off + j by omega] at h1
  rw [add_none]; exact h1
theorem changes_some {w : World} {B : Nat} {a : Option Addr} {n : Nat} {xs : List Chg} (h : Changes w B a n xs) (hn : 0 < n) : ∃ ad, a = some ad := by
  obtain ⟨b, off, e, _, _⟩ := h.1.2.2 hn
  exact ⟨_, e⟩
def CloneZ (w : World) (n : Nat) (xs : List Chg) (e : Ending) (w' : World) : Prop := ∃ v, e = .returned v ∧ w'.ownsRow w.heap.size 43 3 v n (xs.flatMap encChg) ∧ Below w.heap.size w w'
set_option maxHeartbeats 2000000 in
theorem clone_changes (w : World) (a : Option Addr) (n c : Nat) (xs : List Chg) (h : Changes w w.heap.size a n xs) (hn : n ≤ 500) :
    Calls Tryd.prog 34 #[.slice a n c] w (CloneZ w n xs) := by
  obtain ⟨i0, hi, hz0, hz1, hz2⟩ := info_parts Tryd.infoChange
  have hl := h.len
  have q22 : ∀ (w : World) (a : Option Addr) (n c n' c' : Nat), (binOp .eql 22 (.slice a n c) (.slice none n' c')).run Tryd.prog w = .ok (.bool a.isNone) w := fun w a n c n' c' => Lib.run_eql_slice_nil w _ _ a n c n' c' Tryd.underlying22
  cases a with
  | none =>
    have h0 : n = 0 := by
      rcases Nat.eq_zero_or_pos n with h0 | h0
      · exact h0
      · obtain ⟨ad, e⟩ := changes_some h h0; cases e
    subst h0
    obtain rfl : xs = [] := List.length_eq_zero_iff.1 hl
    clear h hl
    go_enter Tryd.func34, Tryd.ntmps34
    go_wp2_with fail
    go_ret
    exact ⟨_, rfl, World.ownsRow_nil _ _ _ _, Below.refl _ _⟩
  | some ad =>
    have HN := Lib.hid (changes_news h); have HL := Lib.hid hl
    have HC := Lib.hid h
    clear h hl
    go_enter Tryd.func34, Tryd.ntmps34
    go_wp2_with (at_builtin; refine wpList_append_own _ rfl _ _ 22 rfl w.heap.size 43 i0 (.agg #[.int .i64 0, .int .i64 0, .string ByteArray.empty]) 3 32 Tryd.underlying22 hi hz0 hz1 hz2 rfl (by decide) _ _ _ rfl (World.ownsRow_made w #[] 0 (Nat.le_refl _) (Nat.zero_le _) rfl) ad n c (xs.flatMap encChg) rfl (by rw [chg_len, HL.out]) (changes_news (HC.out.then_ (below_new (Below.refl _ _) _))) (fun u hu => chg_one hu) (by unfold maxLen; omega) (by omega) (by simp) ?_; intro v' w1 hown hgrow hnil)
    have hown' : w1.ownsRow w.heap.size 43 3 v' n (xs.flatMap encChg) := by simpa using hown
    have hgrow' : World.grownBy _ w1 (Value.ownBlock (.slice (some ⟨w.heap.size, 0, none⟩) 0 0)) := hgrow
    have hb1 : Below w.heap.size w w1 := ((Below.refl _ w).alloc (Nat.le_refl _) _).grown hgrow' (by simp) (by intro k hk; simp [Value.ownBlock] at hk; omega)
    have H3 := Lib.hid hown'
    clear hown hown' hgrow hgrow' hnil
    go_wp2_with fail
    go_ret
    exact ⟨_, rfl, H3.out, hb1⟩
/-- The offset in force behind the last change. -/
def lastO (f : Int) (xs : List Chg) : Int := match xs[xs.length - 1]? with | some x => x.2.1 | none => f
theorem lastO_snoc (f : Int) (xs : List Chg) (c : Chg) : lastO f (xs ++ [c]) = c.2.1 := by
  rw [lastO, List.length_append, List.length_singleton, Nat.add_sub_cancel, List.getElem?_append_right (Nat.le_refl _), Nat.sub_self]; rfl
theorem lastO_nil (f : Int) : lastO f [] = f := rfl
theorem lastO_at {f : Int} {xs : List Chg} {k : Nat} {t o : Int} {l : ByteArray} (hk : xs.length = k + 1) (h : xs[k]? = some (t, o, l)) : lastO f xs = o := by
  rw [lastO, hk, Nat.add_sub_cancel, h]
/-- The changes with those of j more years. -/
def extTo (f : Int) (rs : List Rul) (a : Int) (xs : List Chg) : Nat → List Chg
  | 0 => xs
  | j + 1 => extTo f rs a xs j ++ yearTo (a + j) (lastO f (extTo f rs a xs j)) rs rs.length
theorem extTo_succ (f : Int) (rs : List Rul) (a : Int) (xs : List Chg) (j : Nat) : extTo f rs a xs (j + 1) = extTo f rs a xs j ++ yearTo (a + j) (lastO f (extTo f rs a xs j)) rs rs.length := rfl
theorem extTo_len (f : Int) (rs : List Rul) (a : Int) (xs : List Chg) : ∀ j, (extTo f rs a xs j).length = xs.length + j * rs.length
  | 0 => by simp [extTo]
  | j + 1 => by rw [extTo_succ, List.length_append, extTo_len f rs a xs j, yearTo_len rs.length (Nat.le_refl _), Nat.add_mul, Nat.one_mul, Nat.add_assoc]
theorem ext_last {f : Int} {rs : List Rul} {a : Int} {xs : List Chg} {k j : Nat} {m wk wd t o : Int} {l : ByteArray} (hk : rs.length = k + 1) (h : rs[k]? = some (m, wk, wd, t, o, l)) : lastO f (extTo f rs a xs (j + 1)) = o := by
  rw [extTo_succ, hk, yearTo_succ h, ← List.append_assoc, lastO_snoc]; rfl
theorem lastO_in {f : Int} {xs : List Chg} (hf : -64800000 ≤ f ∧ f ≤ 64800000) (hx : ∀ x ∈ xs, -64800000 ≤ x.2.1 ∧ x.2.1 ≤ 64800000) : -64800000 ≤ lastO f xs ∧ lastO f xs ≤ 64800000 := by
  rw [lastO]
  cases h : xs[xs.length - 1]? with
  | none => exact hf
  | some x => exact hx x (List.mem_of_getElem? h)
theorem yearTo_off {y b : Int} {rs : List Rul} (hr : ∀ x ∈ rs, RulOk x) : ∀ (k : Nat) (c : Chg), c ∈ yearTo y b rs k → -64800000 ≤ c.2.1 ∧ c.2.1 ≤ 64800000
  | 0, c, h => by simp [yearTo] at h
  | k + 1, c, h => by
    rw [yearTo] at h
    rcases List.mem_append.1 h with h | h
    · exact yearTo_off hr k c h
    · cases hk : rs[k]? with
      | none => rw [hk] at h; simp at h
      | some r =>
        rw [hk] at h
        simp at h
        subst h
        exact (hr r (List.mem_of_getElem? hk)).2.2.2.2
theorem extTo_off {f : Int} {rs : List Rul} {a : Int} {xs : List Chg} (hr : ∀ x ∈ rs, RulOk x) (hx : ∀ x ∈ xs, -64800000 ≤ x.2.1 ∧ x.2.1 ≤ 64800000) : ∀ (j : Nat) (c : Chg), c ∈ extTo f rs a xs j → -64800000 ≤ c.2.1 ∧ c.2.1 ≤ 64800000
  | 0, c, h => hx c h
  | j + 1, c, h => by
    rw [extTo_succ] at h
    rcases List.mem_append.1 h with h | h
    · exact extTo_off hr hx j c h
    · exact yearTo_off hr _ c h
theorem extTo_ok {f : Int} {rs : List Rul} {a : Int} {xs : List Chg} (hr : ∀ x ∈ rs, RulOk x) (hl : ∀ x ∈ rs, x.2.2.2.2.2.size ≤ 9223372036854775807) (hf : -64800000 ≤ f ∧ f ≤ 64800000) (hx : ∀ x ∈ xs, -64800000 ≤ x.2.1 ∧ x.2.1 ≤ 64800000) (ho : ∀ x ∈ xs, okChg x) (ha : -10000 ≤ a) : ∀ (j : Nat), a + j ≤ 10001 → ∀ c ∈ extTo f rs a xs j, okChg c
  | 0, _, c, h => ho c h
  | j + 1, hj, c, h => by
    rw [extTo_succ] at h
    rcases List.mem_append.1 h with h | h
    · exact extTo_ok hr hl hf hx ho ha j (by omega) c h
    · obtain ⟨b1, b2⟩ := lastO_in hf (extTo_off (f := f) (a := a) hr hx j)
      exact yearTo_ok hr hl b1 b2 (by omega) (by omega) _ c h
def extErr (s : ByteArray) (f : Int) (xs : List Chg) (rs : List Rul) (a b : Int) : Int :=
  if rulesErr rs ≠ 0 then rulesErr rs else if zoneErr s f xs ≠ 0 then zoneErr s f xs else if ¬ (-10000 ≤ a ∧ a ≤ 10000 ∧ a ≤ b ∧ b ≤ 10000) then 3 else if 50 < b - a then 2 else zoneErr s f (extTo f rs a xs (b - a + 1).toNat)
def ExtPost (s : ByteArray) (f : Int) (xs : List Chg) (rs : List Rul) (a b : Int) (w : World) (e : Ending) (w' : World) : Prop :=
  (extErr s f xs rs a b ≠ 0 ∧ e = .returned (.tuple #[.agg #[.string ⟨#[]⟩, .int .i64 0, .slice none 0 0], .int .i64 (extErr s f xs rs a b)]) ∧ Below w.heap.size w w') ∨
  (extErr s f xs rs a b = 0 ∧ ∃ p n c, e = .returned (.tuple #[.agg #[.string s, .int .i64 f, .slice p n c], .int .i64 0]) ∧ Changes w' w'.heap.size p n (extTo f rs a xs (b - a + 1).toNat) ∧ Below w.heap.size w w')
theorem zoneErr_off {s : ByteArray} {f : Int} {xs : List Chg} (h : zoneErr s f xs = 0) : (-64800000 ≤ f ∧ f ≤ 64800000) ∧ (∀ x ∈ xs, -64800000 ≤ x.2.1 ∧ x.2.1 ≤ 64800000) ∧ xs.length ≤ 200 := by
  have k := zoneOk_of h
  exact ⟨offB_bound k.first, fun x hx => offB_bound (k.each x hx).2, k.len⟩
end Go.Proofs.YtjpbkkoflaajcabDoor
