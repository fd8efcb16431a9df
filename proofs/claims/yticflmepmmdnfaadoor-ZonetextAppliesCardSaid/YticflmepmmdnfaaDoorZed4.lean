/- Rows of edits; contract of zonetext.Apply. -/
import Derived.Test.YticflmepmmdnfaaDoorZed3
import Derived.Test.YticflmepmmdnfaaDoorZone2
import Derived.Test.YticflmepmmdnfaaDoorZone3
import Derived.Test.YticflmepmmdnfaaDoorStore
import Derived.Deep.RegionLaw
import Derived.Deep.Cut
import Derived.Deep.CutRange
namespace Go.Proofs.YticflmepmmdnfaaDoor
set_option linter.unusedVariables false
set_option maxRecDepth 100000
open Go.RowKit

def encEdt (x : Edt) : List Value := [.int .i64 x.1, .int .i64 x.2.1, .int .i64 x.2.2.1, .string x.2.2.2]
def okEdt (x : Edt) : Prop := I64 x.1 ∧ okChg x.2
def Edits (w : World) (B : Nat) (a : Option Addr) (n : Nat) (es : List Edt) : Prop := RowsOf 4 encEdt w B a n es ∧ ∀ x ∈ es, okEdt x
section
variable {w w' w1 w2 : World} {B B' : Nat} {a : Option Addr} {n : Nat} {es : List Edt}
theorem Edits.below (h : Edits w B a n es) (hb : Below B' w w') (hB : B ≤ B') : Edits w' B a n es := ⟨h.1.below hb hB, h.2⟩
theorem Edits.more (h : Edits w B a n es) (hB : B ≤ B') : Edits w B' a n es := ⟨h.1.more hB, h.2⟩
theorem Edits.then_ (h : Edits w w.heap.size a n es) (b : Below w.heap.size w w1) : Edits w1 w1.heap.size a n es := (h.below b (Nat.le_refl _)).more b.size
theorem Edits.len (h : Edits w B a n es) : es.length = n := h.1.1
theorem Edits.max (h : Edits w B a n es) : n ≤ 9223372036854775807 := h.1.2.1
theorem Edits.open_ (h : Edits w B a n es) (hn : 0 < n) :
    ∃ b off, a = some ⟨b, off, none⟩ ∧ b < B ∧ ∀ k, k < n → ∃ (u t o : Int) (l : ByteArray), w.cell? ⟨b, off + k * 4, none⟩ = some (.int .i64 u) ∧ w.cell? ⟨b, off + k * 4 + 1, none⟩ = some (.int .i64 t) ∧ w.cell? ⟨b, off + k * 4 + 2, none⟩ = some (.int .i64 o) ∧ w.cell? ⟨b, off + k * 4 + 3, none⟩ = some (.string l) ∧ es[k]? = some (u, t, o, l) ∧ okEdt (u, t, o, l) := by
  obtain ⟨b, off, e, hlt, hc⟩ := h.1.2.2 hn
  refine ⟨b, off, e, hlt, fun k hk => ?_⟩
  have hl : k < es.length := by have := h.len; omega
  have hx := List.getElem?_eq_getElem hl
  exact ⟨es[k].1, es[k].2.1, es[k].2.2.1, es[k].2.2.2, hc k _ hx 0 _ rfl, hc k _ hx 1 _ rfl, hc k _ hx 2 _ rfl, hc k _ hx 3 _ rfl, hx, h.2 _ (List.getElem_mem hl)⟩
end
theorem apF_cons (e : Edt) (r : List Edt) (l : List Chg) : apF (e :: r) l = if (edF l e).1 = 0 then apF r (edF l e).2 else ((edF l e).1, []) := by rw [apF.eq_def]
theorem edF_ok {l : List Chg} {e : Edt} (hl : ∀ x ∈ l, okChg x) (he : okChg e.2) : ∀ x ∈ (edF l e).2, okChg x := by
  unfold edF
  split
  · split
    · intro x hx; exact hl x (List.mem_filter.1 hx).1
    · simp
  · split
    · split
      · simp
      · intro x hx
        unfold insC at hx
        rcases List.mem_append.1 hx with hx | hx
        · rcases List.mem_append.1 hx with hx | hx
          · exact hl x (List.mem_of_mem_take hx)
          · rw [List.mem_singleton] at hx; subst hx; exact he
        · exact hl x (List.mem_of_mem_drop hx)
    · simp
def apErr (s : ByteArray) (f : Int) (ms : List Chg) (es : List Edt) : Int :=
  if zoneErr s f ms ≠ 0 then zoneErr s f ms else if 400 < es.length then 2 else if (apF es ms).1 ≠ 0 then (apF es ms).1 else zoneErr s f (apF es ms).2
def apOut (s : ByteArray) (f : Int) (ms : List Chg) (es : List Edt) (E : Int) : ByteArray × Int × List Chg := if E ≠ 0 then (⟨#[]⟩, 0, []) else (s, f, (apF es ms).2)
def ApPost (E : Int) (r : ByteArray × Int × List Chg) (w : World) (e : Ending) (w' : World) : Prop :=
  ∃ p n c, e = .returned (.tuple #[.agg #[.string r.1, .int .i64 r.2.1, .slice p n c], .int .i64 E]) ∧ Changes w' w'.heap.size p n r.2.2 ∧ Below w.heap.size w w'
theorem apPost_err {s : ByteArray} {f : Int} {ms : List Chg} {es : List Edt} {E E' : Int} {w w' : World} (h : E = E') (h0 : E' ≠ 0) (hb : Below w.heap.size w w') : ApPost E (apOut s f ms es E) w (.returned (.tuple #[.agg #[.string ⟨#[]⟩, .int .i64 0, .slice none 0 0], .int .i64 E'])) w' := by
  subst h
  exact ⟨none, 0, 0, by rw [apOut, if_pos h0], by rw [apOut, if_pos h0]; exact changes_none _ _, hb⟩
theorem own_set8 {w : World} {base : Nat} {e : TypeId} {size : Nat} {v : Value} {n : Nat} {xs : List Value} (h : w.ownsRow base e size v n xs) {p : Addr} (hp : p.block < base) (u : Value) : (w.setCell p u).ownsRow base e size v n xs := by
  refine ⟨h.1, ?_⟩
  rcases h.2 with h0 | ⟨g, cap, cur, hv, hg, hat, rest⟩
  · exact .inl h0
  · exact .inr ⟨g, cap, cur, hv, hg, (Below.heap_setCell w p u g (by omega)).trans hat, rest⟩
theorem own_nearZ {w : World} {base : Nat} {e : TypeId} {size : Nat} {v : Value} {n : Nat} {xs : List Value} (h : w.ownsRow base e size v n xs) {b : Nat} (hb : b < base) : some b ≠ v.ownBlock := by
  intro e; have := own_far5 h e.symm; omega
set_option maxHeartbeats 8000000 in
theorem zonetext_Apply (w : World) (s : ByteArray) (f : Int) (p : Option Addr) (n c : Nat) (ms : List Chg) (pe : Option Addr) (m cm : Nat) (es : List Edt) (hs : s.size ≤ 9223372036854775807) (f1 : -9223372036854775808 ≤ f) (f2 : f ≤ 9223372036854775807)
    (h1 : Changes w w.heap.size p n ms) (h2 : Edits w w.heap.size pe m es) :
    Calls Tryd.prog 10 #[.agg #[.string s, .int .i64 f, .slice p n c], .slice pe m cm] w (ApPost (apErr s f ms es) (apOut s f ms es (apErr s f ms es)) w) := by
  have L1 := Lib.hid h1.len; have L2 := Lib.hid h2.len
  have HCO := Lib.hid h1.2
  have m1 := h2.max
  have H1 := Lib.hid h1; have H2 := Lib.hid h2; clear h1 h2
  obtain ⟨EE, hEE⟩ : ∃ EE, EE = apErr s f ms es := ⟨_, rfl⟩
  rw [← hEE]
  have HO := Lib.hid (show EE = if zoneErr s f ms ≠ 0 then zoneErr s f ms else if 400 < es.length then 2 else if (apF es ms).1 ≠ 0 then (apF es ms).1 else zoneErr s f (apF es ms).2 from hEE)
  clear hEE
  go_enter Tryd.func10, Tryd.ntmps10
  go_wp2_with fail
  have a0 := (At.new w (.cells #[.string s, .int .i64 f, .slice p n c] 24)).alloc (.cells #[.string ⟨#[]⟩, .int .i64 0, .slice none 0 0] 24)
  have ar := At.new1 w (.cells #[.string s, .int .i64 f, .slice p n c] 24) (.cells #[.string ⟨#[]⟩, .int .i64 0, .slice none 0 0] 24)
  have b0 : Below w.heap.size w ((w.alloc (.cells #[.string s, .int .i64 f, .slice p n c] 24)).alloc (.cells #[.string ⟨#[]⟩, .int .i64 0, .slice none 0 0] 24)) := by (repeat' (first | exact Below.refl _ _ | assumption | refine Below.drew ?_ | refine below_drewN ?_ _ | refine below_new ?_ _ | refine below_set ?_ ?_ _ | refine below_then ?_ (by assumption) | refine below_drawn ?_ (by assumption) | exact Nat.le_refl _ | omega | (simp; done) | (simp; omega)))
  generalize World.alloc (World.alloc w _) _ = W0 at a0 ar b0 ⊢
  have x0 : W0.cell? ⟨w.heap.size, 0, none⟩ = some (.string s) := a0.cell 0
  have x1 : W0.cell? ⟨w.heap.size, 1, none⟩ = some (.int .i64 f) := a0.cell 1
  have x2 : W0.cell? ⟨w.heap.size, 2, none⟩ = some (.slice p n c) := a0.cell 2
  go_wp2_with fail
  refine (zone_Check _ s f p n c ms hs f1 f2 (H1.out.then_ b0)).mono ?_
  clear x0 x1 x2
  by_cases q : zoneErr s f ms = 0
  case neg =>
    have hf := Lib.hid (HO.out.trans (if_pos q))
    have q' : (zoneErr s f ms != 0) = true := by simpa using q
    have Q := Lib.hid q
    generalize zoneErr s f ms = E at hf q' Q ⊢
    rintro e w2 ⟨rfl, hb⟩
    clear q HO
    replace b0 := below_then b0 hb
    replace ar := ar.then_ hb
    clear hb a0
    have f0 : w2.frozen? ⟨w.heap.size + 1, 0, none⟩ = false := ar.frozen 0
    have f1 : w2.frozen? ⟨w.heap.size + 1, 1, none⟩ = false := ar.frozen 1
    have f2 : w2.frozen? ⟨w.heap.size + 1, 2, none⟩ = false := ar.frozen 2
    have z0 : w2.cell? ⟨w.heap.size + 1, 0, none⟩ = some (.string ⟨#[]⟩) := ar.cell 0
    have z1 : w2.cell? ⟨w.heap.size + 1, 1, none⟩ = some (.int .i64 0) := ar.cell 1
    have z2 : w2.cell? ⟨w.heap.size + 1, 2, none⟩ = some (.slice none 0 0) := ar.cell 2
    have AR := Lib.hid ar; clear ar
    go_wp2_with fail
    have AF := AR.out.store3 (.string ⟨#[]⟩) (.int .i64 0) (.slice none 0 0)
    have y0 : (((w2.setCell ⟨w.heap.size + 1, 0, none⟩ (.string ⟨#[]⟩)).setCell ⟨w.heap.size + 1, 1, none⟩ (.int .i64 0)).setCell ⟨w.heap.size + 1, 2, none⟩ (.slice none 0 0)).cell? ⟨w.heap.size + 1, 0, none⟩ = some (.string ⟨#[]⟩) := AF.cell 0
    have y1 : (((w2.setCell ⟨w.heap.size + 1, 0, none⟩ (.string ⟨#[]⟩)).setCell ⟨w.heap.size + 1, 1, none⟩ (.int .i64 0)).setCell ⟨w.heap.size + 1, 2, none⟩ (.slice none 0 0)).cell? ⟨w.heap.size + 1, 1, none⟩ = some (.int .i64 0) := AF.cell 1
    have y2 : (((w2.setCell ⟨w.heap.size + 1, 0, none⟩ (.string ⟨#[]⟩)).setCell ⟨w.heap.size + 1, 1, none⟩ (.int .i64 0)).setCell ⟨w.heap.size + 1, 2, none⟩ (.slice none 0 0)).cell? ⟨w.heap.size + 1, 2, none⟩ = some (.slice none 0 0) := AF.cell 2
    exact bodyPost_ret (v := .tuple #[.agg #[.string ⟨#[]⟩, .int .i64 0, .slice none 0 0], .int .i64 E]) (by simp [results, Tryd.results10, go_sem, y0, y1, y2]) rfl (apPost_err hf.out Q.out (below_set3 b0 (by omega) _ _ _))
  have Q := Lib.hid q
  have hf := Lib.hid (HO.out.trans (if_neg (by omega)))
  rw [q]
  clear q HO
  rintro e w2 ⟨rfl, hb⟩
  replace b0 := below_then b0 hb
  replace ar := ar.then_ hb
  replace a0 := a0.then_ hb
  clear hb
  by_cases h400 : 400 < m
  case pos =>
    have hf2 := Lib.hid (hf.out.trans (if_pos (by rw [L2.out]; exact h400)))
    clear a0 hf
    have f0 : w2.frozen? ⟨w.heap.size + 1, 0, none⟩ = false := ar.frozen 0
    have f1 : w2.frozen? ⟨w.heap.size + 1, 1, none⟩ = false := ar.frozen 1
    have f2 : w2.frozen? ⟨w.heap.size + 1, 2, none⟩ = false := ar.frozen 2
    have z0 : w2.cell? ⟨w.heap.size + 1, 0, none⟩ = some (.string ⟨#[]⟩) := ar.cell 0
    have z1 : w2.cell? ⟨w.heap.size + 1, 1, none⟩ = some (.int .i64 0) := ar.cell 1
    have z2 : w2.cell? ⟨w.heap.size + 1, 2, none⟩ = some (.slice none 0 0) := ar.cell 2
    have AR := Lib.hid ar; clear ar
    go_wp2_with fail
    have AF := AR.out.store3 (.string ⟨#[]⟩) (.int .i64 0) (.slice none 0 0)
    have y0 : (((w2.setCell ⟨w.heap.size + 1, 0, none⟩ (.string ⟨#[]⟩)).setCell ⟨w.heap.size + 1, 1, none⟩ (.int .i64 0)).setCell ⟨w.heap.size + 1, 2, none⟩ (.slice none 0 0)).cell? ⟨w.heap.size + 1, 0, none⟩ = some (.string ⟨#[]⟩) := AF.cell 0
    have y1 : (((w2.setCell ⟨w.heap.size + 1, 0, none⟩ (.string ⟨#[]⟩)).setCell ⟨w.heap.size + 1, 1, none⟩ (.int .i64 0)).setCell ⟨w.heap.size + 1, 2, none⟩ (.slice none 0 0)).cell? ⟨w.heap.size + 1, 1, none⟩ = some (.int .i64 0) := AF.cell 1
    have y2 : (((w2.setCell ⟨w.heap.size + 1, 0, none⟩ (.string ⟨#[]⟩)).setCell ⟨w.heap.size + 1, 1, none⟩ (.int .i64 0)).setCell ⟨w.heap.size + 1, 2, none⟩ (.slice none 0 0)).cell? ⟨w.heap.size + 1, 2, none⟩ = some (.slice none 0 0) := AF.cell 2
    exact bodyPost_ret (v := .tuple #[.agg #[.string ⟨#[]⟩, .int .i64 0, .slice none 0 0], .int .i64 2]) (by simp [results, Tryd.results10, go_sem, y0, y1, y2]) rfl (apPost_err hf2.out (by omega) (below_set3 b0 (by omega) _ _ _))
  have hf2 := Lib.hid (hf.out.trans (if_neg (by rw [L2.out]; exact h400)))
  clear hf
  obtain ⟨ord0, l200⟩ := zone_ord Q.out
  have ORD0 := Lib.hid ord0; clear ord0
  have hn200 : n ≤ 200 := by have := L1.out; omega
  clear l200
  have hl0 := a0.lt; have hl1 := ar.lt
  have x0 : w2.cell? ⟨w.heap.size, 0, none⟩ = some (.string s) := a0.cell 0
  have x1 : w2.cell? ⟨w.heap.size, 1, none⟩ = some (.int .i64 f) := a0.cell 1
  have x2 : w2.cell? ⟨w.heap.size, 2, none⟩ = some (.slice p n c) := a0.cell 2
  obtain ⟨w3, rfl⟩ : ∃ w3, w3 = w2 := ⟨_, rfl⟩
  go_wp2_with fail
  have ac := At.new w3 (.cells #[.string s, .int .i64 f, .slice p n c] 24)
  have bc := below_new (Below.refl w3.heap.size w3) (.cells #[.string s, .int .i64 f, .slice p n c] 24)
  have hse : (World.alloc w3 (.cells #[.string s, .int .i64 f, .slice p n c] 24)).heap.size = w3.heap.size + 1 := by simp only [World.size_alloc]
  clear x0 x1 x2
  generalize World.alloc w3 _ = W4 at ac bc hse ⊢
  refine (clone_changes _ p n c ms (H1.out.then_ (below_then b0 bc)) (by omega)).mono ?_
  rintro e w5 ⟨v0, rfl, hown, hb⟩
  rw [hse] at hown
  obtain ⟨va, vc, rfl, _, _, _⟩ := own_changes hown L1.out HCO.out
  replace ac := ac.then_ hb
  replace bc := below_then bc hb
  clear hb hse
  have A0 := Lib.hid a0; have AR := Lib.hid ar; have B00 := Lib.hid b0
  clear a0 ar b0
  generalize hG : w3.heap.size = G at *
  have g2 : w5.cell? ⟨G, 2, none⟩ = some (.slice p n c) := ac.cell 2
  have g3 : w5.frozen? ⟨G, 2, none⟩ = false := ac.frozen 2
  have hgl5 := ac.lt
  have OWN0 := Lib.hid hown
  clear hown
  have AC0 := Lib.hid ac; have BC0 := Lib.hid bc; clear ac bc
  go_wp2_with fail
  have ac1 := AC0.out.store 2 (.slice va n vc)
  have bc1 : Below G w3 (w5.setCell ⟨G, 2, none⟩ (.slice va n vc)) := below_set BC0.out (p := ⟨G, 2, none⟩) (Nat.le_refl _) (.slice va n vc)
  have own1 := own_set8 OWN0.out (p := ⟨G, 2, none⟩) (by simp only; omega) (.slice va n vc)
  simp only [List.setIfInBounds_toArray, List.set_cons_succ, List.set_cons_zero] at ac1
  clear AC0 BC0 g2 g3 hgl5 OWN0
  generalize World.setCell w5 _ _ = W6 at ac1 bc1 own1 ⊢
  have AC1 := Lib.hid ac1; have BC1 := Lib.hid bc1; have OWN1 := Lib.hid own1
  clear ac1 bc1 own1
  go_loopw [9, 10, 11, 30] (fun _ _ _ vi wr => ∃ (k : Nat) (v : Value) (L : List Chg), k ≤ m ∧ vi = .int .i64 k ∧ apF (es.drop k) L = apF es ms ∧ Ord L ∧ (∀ x ∈ L, okChg x) ∧ L.length ≤ n + k ∧ wr.ownsRow (G + 1) 31 3 v L.length (L.flatMap encChg) ∧ At wr G (.cells #[.string s, .int .i64 f, v] 24) ∧ Below G w3 wr) (fun _ _ _ vi _ => m - (intOf vi).toNat)
  case atStart => exact ⟨0, .slice va n vc, ms, by omega, rfl, rfl, ORD0.out, HCO.out, by have := L1.out; omega, by rw [L1.out]; exact OWN1.out, AC1.out, BC1.out⟩
  case round =>
    obtain ⟨k, v, L, hk, rfl, hap, hord, hokL, hlen, hown, ac, bw⟩ := hrel
    have bw' : Below w3.heap.size w3 wr := by rw [hG]; exact bw
    have hbs := bw'.size
    have hgl := ac.lt
    have HAP := Lib.hid hap; have HORD := Lib.hid hord; have HOKL := Lib.hid hokL
    have OWN := Lib.hid hown; have AC := Lib.hid ac; have BW := Lib.hid bw; have B0 := Lib.hid (below_then B00.out bw')
    have AR1 := Lib.hid (AR.out.then_ bw')
    clear hap hord hokL hown bw
    by_cases hlt : k < m
    · obtain ⟨eb, eo, rfl, hebB, hcs⟩ := (H2.out.then_ B0.out).open_ (by omega)
      obtain ⟨u, t, o, l, k0, k1, k2, k3, hx, hoe⟩ := hcs k hlt
      have HN := Lib.hid ((apF_cons (u, t, o, l) (es.drop (k + 1)) L).symm.trans ((congrArg (fun r => apF r L) (drop_row hx)).symm.trans HAP.out))
      have HOE := Lib.hid hoe
      clear hcs hx hoe HAP
      go_upto_region 11 with fail
      have hx1 := At.new wr (.cells #[.int .i64 u, .int .i64 t, .int .i64 o, .string l] 33)
      have bx1 := below_new (Below.refl wr.heap.size wr) (.cells #[.int .i64 u, .int .i64 t, .int .i64 o, .string l] 33)
      have acx := AC.out.alloc (.cells #[.int .i64 u, .int .i64 t, .int .i64 o, .string l] 33)
      have ownx := OWN.out.alloc (.cells #[.int .i64 u, .int .i64 t, .int .i64 o, .string l] 33)
      clear k0 k1 k2 k3
      generalize World.alloc wr _ = W7 at hx1 bx1 acx ownx ⊢
      have y0 : W7.cell? ⟨wr.heap.size, 0, none⟩ = some (.int .i64 u) := hx1.cell 0
      have y1 : W7.cell? ⟨wr.heap.size, 1, none⟩ = some (.int .i64 t) := hx1.cell 1
      have y2 : W7.cell? ⟨wr.heap.size, 2, none⟩ = some (.int .i64 o) := hx1.cell 2
      have y3 : W7.cell? ⟨wr.heap.size, 3, none⟩ = some (.string l) := hx1.cell 3
      have g2 : W7.cell? ⟨G, 2, none⟩ = some v := acx.cell 2
      have hsz7 := bx1.size
      have OWNX := Lib.hid ownx; have ACX := Lib.hid acx; have BX := Lib.hid bx1
      clear hx1 bx1 acx ownx
      go_wp2_with fail
      refine (zed_edit _ (G + 1) L.length v L u t o l OWNX.out (by omega) rfl HOKL.out HORD.out (by omega)).mono ?_
      rintro e w8 ⟨v', rfl, own8, hg8, hv8⟩
      obtain ⟨a9, c9, rfl, _, _, _⟩ := own_changes own8 rfl (edF_ok (e := (u, t, o, l)) HOKL.out HOE.out.2)
      have hne : some G ≠ Value.ownBlock v := own_nearZ OWNX.out (by omega)
      have ac8 := ACX.out.grown6 hg8 hne
      have bw8 : Below G w3 w8 := (BW.out.trans (BX.out.mono (by omega))).grown hg8 (by omega) (fun b hb => by have := own_far5 OWNX.out hb; omega)
      have bw8' : Below w3.heap.size w3 w8 := by rw [hG]; exact bw8
      have B8 := Lib.hid (below_then B00.out bw8')
      have AR8 := Lib.hid (AR.out.then_ bw8')
      have OWN8 := Lib.hid own8; have AC8 := Lib.hid ac8; have BW8 := Lib.hid bw8
      clear own8 hg8 hv8 ac8 bw8 bw8' y0 y1 y2 y3 g2 hsz7
      by_cases he : (edF L (u, t, o, l)).1 = 0
      · have HN2 := Lib.hid (show apF (es.drop (k + 1)) (edF L (u, t, o, l)).2 = apF es ms by have := HN.out; rwa [if_pos he] at this)
        have HO2 := Lib.hid (ord_ed HORD.out (u, t, o, l))
        have HK2 := Lib.hid (edF_ok (e := (u, t, o, l)) HOKL.out HOE.out.2)
        have hl2 := edF_len L (u, t, o, l)
        rw [he]
        generalize (edF L (u, t, o, l)).2 = L' at HN2 HO2 HK2 hl2 OWN8 ⊢
        have g2 : w8.cell? ⟨G, 2, none⟩ = some v := AC8.out.cell 2
        have g3 : w8.frozen? ⟨G, 2, none⟩ = false := AC8.out.frozen 2
        clear HN he
        go_wp2_with fail
        have ac9 := AC8.out.store 2 (.slice a9 L'.length c9)
        have bw9 := below_set BW8.out (p := ⟨G, 2, none⟩) (Nat.le_refl _) (.slice a9 L'.length c9)
        have own9 := own_set8 OWN8.out (p := ⟨G, 2, none⟩) (by simp only; omega) (.slice a9 L'.length c9)
        simp only [List.setIfInBounds_toArray, List.set_cons_succ, List.set_cons_zero] at ac9
        have AC9 := Lib.hid ac9; have BW9 := Lib.hid bw9; have OWN9 := Lib.hid own9
        clear ac9 bw9 own9
        go_roundw
        case rel => exact ⟨k + 1, .slice a9 L'.length c9, L', by omega, by go_num, HN2.out, HO2.out, HK2.out, by omega, OWN9.out, AC9.out, BW9.out⟩
        case measure => first | (simp [intOf]; done) | (simp [intOf]; omega)
      · have HN2 := Lib.hid (show ((edF L (u, t, o, l)).1, ([] : List Chg)) = apF es ms by have := HN.out; rwa [if_neg he] at this)
        have hE1 : (apF es ms).1 = (edF L (u, t, o, l)).1 := by rw [← HN2.out]
        have hf3 := Lib.hid (hf2.out.trans (if_pos (by rw [hE1]; exact he)))
        rw [hE1] at hf3
        have q' : ((edF L (u, t, o, l)).1 != 0) = true := by simpa using he
        have Q8 := Lib.hid he
        generalize (edF L (u, t, o, l)).1 = E at hf3 q' Q8 ⊢
        have b0 := B8.out
        have ar := AR8.out
        clear HN HN2 hE1 he
        have f0 : w8.frozen? ⟨w.heap.size + 1, 0, none⟩ = false := ar.frozen 0
        have f1 : w8.frozen? ⟨w.heap.size + 1, 1, none⟩ = false := ar.frozen 1
        have f2 : w8.frozen? ⟨w.heap.size + 1, 2, none⟩ = false := ar.frozen 2
        have z0 : w8.cell? ⟨w.heap.size + 1, 0, none⟩ = some (.string ⟨#[]⟩) := ar.cell 0
        have z1 : w8.cell? ⟨w.heap.size + 1, 1, none⟩ = some (.int .i64 0) := ar.cell 1
        have z2 : w8.cell? ⟨w.heap.size + 1, 2, none⟩ = some (.slice none 0 0) := ar.cell 2
        have AR := Lib.hid ar; clear ar
        go_wp2_with fail
        have AF := AR.out.store3 (.string ⟨#[]⟩) (.int .i64 0) (.slice none 0 0)
        have y0 : (((w8.setCell ⟨w.heap.size + 1, 0, none⟩ (.string ⟨#[]⟩)).setCell ⟨w.heap.size + 1, 1, none⟩ (.int .i64 0)).setCell ⟨w.heap.size + 1, 2, none⟩ (.slice none 0 0)).cell? ⟨w.heap.size + 1, 0, none⟩ = some (.string ⟨#[]⟩) := AF.cell 0
        have y1 : (((w8.setCell ⟨w.heap.size + 1, 0, none⟩ (.string ⟨#[]⟩)).setCell ⟨w.heap.size + 1, 1, none⟩ (.int .i64 0)).setCell ⟨w.heap.size + 1, 2, none⟩ (.slice none 0 0)).cell? ⟨w.heap.size + 1, 1, none⟩ = some (.int .i64 0) := AF.cell 1
        have y2 : (((w8.setCell ⟨w.heap.size + 1, 0, none⟩ (.string ⟨#[]⟩)).setCell ⟨w.heap.size + 1, 1, none⟩ (.int .i64 0)).setCell ⟨w.heap.size + 1, 2, none⟩ (.slice none 0 0)).cell? ⟨w.heap.size + 1, 2, none⟩ = some (.slice none 0 0) := AF.cell 2
        exact bodyPost_ret (v := .tuple #[.agg #[.string ⟨#[]⟩, .int .i64 0, .slice none 0 0], .int .i64 E]) (by simp [results, Tryd.results10, go_sem, y0, y1, y2]) rfl (apPost_err hf3.out Q8.out (below_set3 b0 (by omega) _ _ _))
    · obtain rfl : k = m := by omega
      have HAP2 := Lib.hid (show apF es ms = (0, L) by rw [← HAP.out, List.drop_eq_nil_of_le (by have := L2.out; omega)]; rfl)
      have hf3 := Lib.hid (show EE = zoneErr s f L by have := hf2.out; rw [HAP2.out] at this; rwa [if_neg (by simp)] at this)
      obtain ⟨va2, vc2, rfl, _, _, hch⟩ := own_changes OWN.out rfl HOKL.out
      have HCH := Lib.hid hch
      have g0 : wr.cell? ⟨G, 0, none⟩ = some (.string s) := ac.cell 0
      have g1 : wr.cell? ⟨G, 1, none⟩ = some (.int .i64 f) := ac.cell 1
      have g2 : wr.cell? ⟨G, 2, none⟩ = some (.slice va2 L.length vc2) := ac.cell 2
      clear hch ac hbs bw' HAP hf2
      go_wp2_with fail
      refine (zone_Check _ s f va2 L.length vc2 L hs f1 f2 HCH.out).mono ?_
      clear g0 g1 g2
      by_cases q : zoneErr s f L = 0
      case neg =>
        have q' : (zoneErr s f L != 0) = true := by simpa using q
        have Q8 := Lib.hid q
        generalize zoneErr s f L = E at hf3 q' Q8 ⊢
        rintro e w8 ⟨rfl, hb⟩
        clear q
        have b0 := below_then B0.out hb
        have ar := AR1.out.then_ hb
        clear hb
        have f0 : w8.frozen? ⟨w.heap.size + 1, 0, none⟩ = false := ar.frozen 0
        have f1 : w8.frozen? ⟨w.heap.size + 1, 1, none⟩ = false := ar.frozen 1
        have f2 : w8.frozen? ⟨w.heap.size + 1, 2, none⟩ = false := ar.frozen 2
        have z0 : w8.cell? ⟨w.heap.size + 1, 0, none⟩ = some (.string ⟨#[]⟩) := ar.cell 0
        have z1 : w8.cell? ⟨w.heap.size + 1, 1, none⟩ = some (.int .i64 0) := ar.cell 1
        have z2 : w8.cell? ⟨w.heap.size + 1, 2, none⟩ = some (.slice none 0 0) := ar.cell 2
        have AR := Lib.hid ar; clear ar
        go_wp2_with fail
        have AF := AR.out.store3 (.string ⟨#[]⟩) (.int .i64 0) (.slice none 0 0)
        have y0 : (((w8.setCell ⟨w.heap.size + 1, 0, none⟩ (.string ⟨#[]⟩)).setCell ⟨w.heap.size + 1, 1, none⟩ (.int .i64 0)).setCell ⟨w.heap.size + 1, 2, none⟩ (.slice none 0 0)).cell? ⟨w.heap.size + 1, 0, none⟩ = some (.string ⟨#[]⟩) := AF.cell 0
        have y1 : (((w8.setCell ⟨w.heap.size + 1, 0, none⟩ (.string ⟨#[]⟩)).setCell ⟨w.heap.size + 1, 1, none⟩ (.int .i64 0)).setCell ⟨w.heap.size + 1, 2, none⟩ (.slice none 0 0)).cell? ⟨w.heap.size + 1, 1, none⟩ = some (.int .i64 0) := AF.cell 1
        have y2 : (((w8.setCell ⟨w.heap.size + 1, 0, none⟩ (.string ⟨#[]⟩)).setCell ⟨w.heap.size + 1, 1, none⟩ (.int .i64 0)).setCell ⟨w.heap.size + 1, 2, none⟩ (.slice none 0 0)).cell? ⟨w.heap.size + 1, 2, none⟩ = some (.slice none 0 0) := AF.cell 2
        exact bodyPost_ret (v := .tuple #[.agg #[.string ⟨#[]⟩, .int .i64 0, .slice none 0 0], .int .i64 E]) (by simp [results, Tryd.results10, go_sem, y0, y1, y2]) rfl (apPost_err hf3.out Q8.out (below_set3 b0 (by omega) _ _ _))
      have hf4 := Lib.hid (hf3.out.trans q)
      rw [q]
      clear q
      rintro e w8 ⟨rfl, hb⟩
      have b0 := below_then B0.out hb
      have ar := AR1.out.then_ hb
      have ac8 := AC.out.then_ hb
      have OWN8 := Lib.hid (own_then4 OWN.out hb)
      have g0 : w8.cell? ⟨G, 0, none⟩ = some (.string s) := ac8.cell 0
      have g1 : w8.cell? ⟨G, 1, none⟩ = some (.int .i64 f) := ac8.cell 1
      have g2 : w8.cell? ⟨G, 2, none⟩ = some (.slice va2 L.length vc2) := ac8.cell 2
      clear hb ac8
      have f0 : w8.frozen? ⟨w.heap.size + 1, 0, none⟩ = false := ar.frozen 0
      have f1 : w8.frozen? ⟨w.heap.size + 1, 1, none⟩ = false := ar.frozen 1
      have f2 : w8.frozen? ⟨w.heap.size + 1, 2, none⟩ = false := ar.frozen 2
      have z0 : w8.cell? ⟨w.heap.size + 1, 0, none⟩ = some (.string ⟨#[]⟩) := ar.cell 0
      have z1 : w8.cell? ⟨w.heap.size + 1, 1, none⟩ = some (.int .i64 0) := ar.cell 1
      have z2 : w8.cell? ⟨w.heap.size + 1, 2, none⟩ = some (.slice none 0 0) := ar.cell 2
      have ARZ := Lib.hid ar; clear ar
      go_wp2_with fail
      have AF := ARZ.out.store3 (.string s) (.int .i64 f) (.slice va2 L.length vc2)
      have y0 : (((w8.setCell ⟨w.heap.size + 1, 0, none⟩ (.string s)).setCell ⟨w.heap.size + 1, 1, none⟩ (.int .i64 f)).setCell ⟨w.heap.size + 1, 2, none⟩ (.slice va2 L.length vc2)).cell? ⟨w.heap.size + 1, 0, none⟩ = some (.string s) := AF.cell 0
      have y1 : (((w8.setCell ⟨w.heap.size + 1, 0, none⟩ (.string s)).setCell ⟨w.heap.size + 1, 1, none⟩ (.int .i64 f)).setCell ⟨w.heap.size + 1, 2, none⟩ (.slice va2 L.length vc2)).cell? ⟨w.heap.size + 1, 1, none⟩ = some (.int .i64 f) := AF.cell 1
      have y2 : (((w8.setCell ⟨w.heap.size + 1, 0, none⟩ (.string s)).setCell ⟨w.heap.size + 1, 1, none⟩ (.int .i64 f)).setCell ⟨w.heap.size + 1, 2, none⟩ (.slice va2 L.length vc2)).cell? ⟨w.heap.size + 1, 2, none⟩ = some (.slice va2 L.length vc2) := AF.cell 2
      have bf := below_set3 b0 (show w.heap.size ≤ w.heap.size + 1 by omega) (.string s) (.int .i64 f) (.slice va2 L.length vc2)
      have ownf := own_set8 (own_set8 (own_set8 OWN8.out (p := ⟨w.heap.size + 1, 0, none⟩) (by simp only; omega) (.string s)) (p := ⟨w.heap.size + 1, 1, none⟩) (by simp only; omega) (.int .i64 f)) (p := ⟨w.heap.size + 1, 2, none⟩) (by simp only; omega) (.slice va2 L.length vc2)
      obtain ⟨ab, cb, hve, _, _, hI⟩ := own_changes ownf rfl HOKL.out
      injection hve with hv1 _ hv3
      subst hv1 hv3
      refine bodyPost_ret (v := .tuple #[.agg #[.string s, .int .i64 f, .slice va2 L.length vc2], .int .i64 0]) (by simp [results, Tryd.results10, go_sem, y0, y1, y2]) rfl ?_
      refine ⟨va2, L.length, vc2, ?_, ?_, bf⟩
      · rw [hf4.out, apOut, if_neg (by simp)]
      · rw [hf4.out, apOut, if_neg (by simp)]; show Changes _ _ _ _ (apF es ms).2; rw [HAP2.out]; exact hI
end Go.Proofs.YticflmepmmdnfaaDoor
