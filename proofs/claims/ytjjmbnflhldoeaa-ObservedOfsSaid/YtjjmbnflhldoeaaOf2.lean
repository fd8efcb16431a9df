/- Contracts of observed.Of at a fault, and of the reference's SameTable. -/
import Derived.Test.YtjjmbnflhldoeaaOf1
namespace Go.Proofs.Ytjjmbnflhldoeaa
set_option linter.unusedVariables false
set_option maxRecDepth 100000
open Go.RowKit

def ofErr (E first years : Int) : Int := if E ≠ 0 then E else if inB 1 40 years = false then 1 else if inB (-10000) 9960 first = false then 3 else 0
abbrev zeroV : Value := .agg #[.string ⟨#[]⟩, .int .i64 0, .slice none 0 0, .slice none 0 0]
set_option maxHeartbeats 4000000 in
theorem observed_Of_err (w : World) (s : ByteArray) (f sn sd mn md ln ld c : Int) (a1 a2 : Option Addr) (n1 c1 n2 c2 : Nat) (ls vs : List Int) (first years : Int) (hs : s.size ≤ 9223372036854775807) (hmi : MoonI sn sd mn md ln ld) (h : MoonAt w a1 a2 n1 n2 ls vs) (hq : ofErr (moonErr s f sn sd mn md ln ld c ls vs) first years ≠ 0) :
    Calls Try.prog 15 #[.agg #[.string s, .int .i64 f, .int .i64 sn, .int .i64 sd, .int .i64 mn, .int .i64 md, .int .i64 ln, .int .i64 ld, .int .i64 c, .slice a1 n1 c1, .slice a2 n2 c2], .int .i64 first, .int .i64 years] w fun e w' => e = .returned (.tuple #[zeroV, .int .i64 (ofErr (moonErr s f sn sd mn md ln ld c ls vs) first years)]) ∧ Below w.heap.size w w' := by
  have CK := Lib.hid (fun W (hb : Below w.heap.size w W) => lunisolar_Check W s f sn sd mn md ln ld c a1 a2 n1 c1 n2 c2 ls vs hs hmi (h.then_ hb))
  obtain ⟨E, hE⟩ : ∃ E, E = moonErr s f sn sd mn md ln ld c ls vs := ⟨_, rfl⟩
  rw [← hE] at CK hq ⊢
  clear hE h
  have hcase : (E ≠ 0 ∧ ofErr E first years = E) ∨ (E = 0 ∧ (years < 1 ∨ 40 < years) ∧ ofErr E first years = 1) ∨ (E = 0 ∧ 1 ≤ years ∧ years ≤ 40 ∧ (first < -10000 ∨ 9960 < first) ∧ ofErr E first years = 3) := by
    unfold ofErr at hq ⊢
    by_cases h0 : E = 0
    · subst h0
      rw [if_neg (by simp)] at hq ⊢
      rcases inB_cases 1 40 years with ⟨h1, i1⟩ | ⟨h1, i1⟩
      · rw [h1, if_neg (by simp)] at hq ⊢
        rcases inB_cases (-10000) 9960 first with ⟨h2, i2⟩ | ⟨h2, i2⟩
        · rw [h2, if_neg (by simp)] at hq; exact absurd rfl hq
        · rw [h2, if_pos rfl]; exact .inr (.inr ⟨rfl, i1.1, i1.2, by omega, rfl⟩)
      · rw [h1, if_pos rfl]; exact .inr (.inl ⟨rfl, by omega, rfl⟩)
    · rw [if_pos h0]; exact .inl ⟨h0, rfl⟩
  clear hq
  obtain ⟨R, hR⟩ : ∃ R, R = ofErr E first years := ⟨_, rfl⟩
  rw [← hR] at hcase ⊢
  clear hR
  rcases hcase with ⟨h0, rfl⟩ | ⟨rfl, h1, rfl⟩ | ⟨rfl, h1, h2, h3, rfl⟩
  · have hz : (R != 0) = true := by simpa using h0
    clear h0
    go_enter Try.func15, Try.ntmps15
    go_wp2_with fail
    have b0 := below_new (below_new (Below.refl w.heap.size w) (.cells #[.string s, .int .i64 f, .int .i64 sn, .int .i64 sd, .int .i64 mn, .int .i64 md, .int .i64 ln, .int .i64 ld, .int .i64 c, .slice a1 n1 c1, .slice a2 n2 c2] 42)) zeroT
    have az := At.new1 w (.cells #[.string s, .int .i64 f, .int .i64 sn, .int .i64 sd, .int .i64 mn, .int .i64 md, .int .i64 ln, .int .i64 ld, .int .i64 c, .slice a1 n1 c1, .slice a2 n2 c2] 42) zeroT
    generalize World.alloc (World.alloc w _) _ = W0 at b0 az ⊢
    refine (CK.out _ b0).mono ?_
    rintro e W1 ⟨rfl, hb⟩
    have B1 := Lib.hid (below_then b0 hb); have AZ := Lib.hid (az.then_ hb)
    clear b0 az hb
    have z0 : W1.cell? ⟨w.heap.size + 1, 0, none⟩ = some (.string ⟨#[]⟩) := AZ.out.cell 0
    have zf0 : W1.frozen? ⟨w.heap.size + 1, 0, none⟩ = false := AZ.out.frozen 0
    have z1 : W1.cell? ⟨w.heap.size + 1, 1, none⟩ = some (.int .i64 0) := AZ.out.cell 1
    have zf1 : W1.frozen? ⟨w.heap.size + 1, 1, none⟩ = false := AZ.out.frozen 1
    have z2 : W1.cell? ⟨w.heap.size + 1, 2, none⟩ = some (.slice none 0 0) := AZ.out.cell 2
    have zf2 : W1.frozen? ⟨w.heap.size + 1, 2, none⟩ = false := AZ.out.frozen 2
    have z3 : W1.cell? ⟨w.heap.size + 1, 3, none⟩ = some (.slice none 0 0) := AZ.out.cell 3
    have zf3 : W1.frozen? ⟨w.heap.size + 1, 3, none⟩ = false := AZ.out.frozen 3
    have zl := AZ.out.lt
    go_wp2_with fail
    have AFN := AZ.out.store4 (.string ⟨#[]⟩) (.int .i64 0) (.slice none 0 0) (.slice none 0 0)
    have BL := Lib.hid (below_set4 B1.out (p := w.heap.size + 1) (by omega) (.string ⟨#[]⟩) (.int .i64 0) (.slice none 0 0) (.slice none 0 0))
    have e0 : ((((W1.setCell ⟨w.heap.size + 1, 0, none⟩ (.string ⟨#[]⟩)).setCell ⟨w.heap.size + 1, 1, none⟩ (.int .i64 0)).setCell ⟨w.heap.size + 1, 2, none⟩ (.slice none 0 0)).setCell ⟨w.heap.size + 1, 3, none⟩ (.slice none 0 0)).cell? ⟨w.heap.size + 1, 0, none⟩ = some (.string ⟨#[]⟩) := AFN.cell 0
    have e1 : ((((W1.setCell ⟨w.heap.size + 1, 0, none⟩ (.string ⟨#[]⟩)).setCell ⟨w.heap.size + 1, 1, none⟩ (.int .i64 0)).setCell ⟨w.heap.size + 1, 2, none⟩ (.slice none 0 0)).setCell ⟨w.heap.size + 1, 3, none⟩ (.slice none 0 0)).cell? ⟨w.heap.size + 1, 1, none⟩ = some (.int .i64 0) := AFN.cell 1
    have e2 : ((((W1.setCell ⟨w.heap.size + 1, 0, none⟩ (.string ⟨#[]⟩)).setCell ⟨w.heap.size + 1, 1, none⟩ (.int .i64 0)).setCell ⟨w.heap.size + 1, 2, none⟩ (.slice none 0 0)).setCell ⟨w.heap.size + 1, 3, none⟩ (.slice none 0 0)).cell? ⟨w.heap.size + 1, 2, none⟩ = some (.slice none 0 0) := AFN.cell 2
    have e3 : ((((W1.setCell ⟨w.heap.size + 1, 0, none⟩ (.string ⟨#[]⟩)).setCell ⟨w.heap.size + 1, 1, none⟩ (.int .i64 0)).setCell ⟨w.heap.size + 1, 2, none⟩ (.slice none 0 0)).setCell ⟨w.heap.size + 1, 3, none⟩ (.slice none 0 0)).cell? ⟨w.heap.size + 1, 3, none⟩ = some (.slice none 0 0) := AFN.cell 3
    exact bodyPost_ret (v := .tuple #[zeroV, .int .i64 R]) (by simp [results, Try.results15, go_sem, e0, e1, e2, e3]) rfl ⟨rfl, BL.out⟩
  · rcases h1 with h1 | h1
    · have d1 : years < 1 := h1
      go_enter Try.func15, Try.ntmps15
      go_wp2_with fail
      have b0 := below_new (below_new (Below.refl w.heap.size w) (.cells #[.string s, .int .i64 f, .int .i64 sn, .int .i64 sd, .int .i64 mn, .int .i64 md, .int .i64 ln, .int .i64 ld, .int .i64 c, .slice a1 n1 c1, .slice a2 n2 c2] 42)) zeroT
      have az := At.new1 w (.cells #[.string s, .int .i64 f, .int .i64 sn, .int .i64 sd, .int .i64 mn, .int .i64 md, .int .i64 ln, .int .i64 ld, .int .i64 c, .slice a1 n1 c1, .slice a2 n2 c2] 42) zeroT
      generalize World.alloc (World.alloc w _) _ = W0 at b0 az ⊢
      refine (CK.out _ b0).mono ?_
      rintro e W1 ⟨rfl, hb⟩
      have B1 := Lib.hid (below_then b0 hb); have AZ := Lib.hid (az.then_ hb)
      clear b0 az hb
      have z0 : W1.cell? ⟨w.heap.size + 1, 0, none⟩ = some (.string ⟨#[]⟩) := AZ.out.cell 0
      have zf0 : W1.frozen? ⟨w.heap.size + 1, 0, none⟩ = false := AZ.out.frozen 0
      have z1 : W1.cell? ⟨w.heap.size + 1, 1, none⟩ = some (.int .i64 0) := AZ.out.cell 1
      have zf1 : W1.frozen? ⟨w.heap.size + 1, 1, none⟩ = false := AZ.out.frozen 1
      have z2 : W1.cell? ⟨w.heap.size + 1, 2, none⟩ = some (.slice none 0 0) := AZ.out.cell 2
      have zf2 : W1.frozen? ⟨w.heap.size + 1, 2, none⟩ = false := AZ.out.frozen 2
      have z3 : W1.cell? ⟨w.heap.size + 1, 3, none⟩ = some (.slice none 0 0) := AZ.out.cell 3
      have zf3 : W1.frozen? ⟨w.heap.size + 1, 3, none⟩ = false := AZ.out.frozen 3
      have zl := AZ.out.lt
      go_wp2_with fail
      have AFN := AZ.out.store4 (.string ⟨#[]⟩) (.int .i64 0) (.slice none 0 0) (.slice none 0 0)
      have BL := Lib.hid (below_set4 B1.out (p := w.heap.size + 1) (by omega) (.string ⟨#[]⟩) (.int .i64 0) (.slice none 0 0) (.slice none 0 0))
      have e0 : ((((W1.setCell ⟨w.heap.size + 1, 0, none⟩ (.string ⟨#[]⟩)).setCell ⟨w.heap.size + 1, 1, none⟩ (.int .i64 0)).setCell ⟨w.heap.size + 1, 2, none⟩ (.slice none 0 0)).setCell ⟨w.heap.size + 1, 3, none⟩ (.slice none 0 0)).cell? ⟨w.heap.size + 1, 0, none⟩ = some (.string ⟨#[]⟩) := AFN.cell 0
      have e1 : ((((W1.setCell ⟨w.heap.size + 1, 0, none⟩ (.string ⟨#[]⟩)).setCell ⟨w.heap.size + 1, 1, none⟩ (.int .i64 0)).setCell ⟨w.heap.size + 1, 2, none⟩ (.slice none 0 0)).setCell ⟨w.heap.size + 1, 3, none⟩ (.slice none 0 0)).cell? ⟨w.heap.size + 1, 1, none⟩ = some (.int .i64 0) := AFN.cell 1
      have e2 : ((((W1.setCell ⟨w.heap.size + 1, 0, none⟩ (.string ⟨#[]⟩)).setCell ⟨w.heap.size + 1, 1, none⟩ (.int .i64 0)).setCell ⟨w.heap.size + 1, 2, none⟩ (.slice none 0 0)).setCell ⟨w.heap.size + 1, 3, none⟩ (.slice none 0 0)).cell? ⟨w.heap.size + 1, 2, none⟩ = some (.slice none 0 0) := AFN.cell 2
      have e3 : ((((W1.setCell ⟨w.heap.size + 1, 0, none⟩ (.string ⟨#[]⟩)).setCell ⟨w.heap.size + 1, 1, none⟩ (.int .i64 0)).setCell ⟨w.heap.size + 1, 2, none⟩ (.slice none 0 0)).setCell ⟨w.heap.size + 1, 3, none⟩ (.slice none 0 0)).cell? ⟨w.heap.size + 1, 3, none⟩ = some (.slice none 0 0) := AFN.cell 3
      exact bodyPost_ret (v := .tuple #[zeroV, .int .i64 1]) (by simp [results, Try.results15, go_sem, e0, e1, e2, e3]) rfl ⟨rfl, BL.out⟩
    · have d1 : ¬ years < 1 := by omega
      have d2 : 40 < years := h1
      go_enter Try.func15, Try.ntmps15
      go_wp2_with fail
      have b0 := below_new (below_new (Below.refl w.heap.size w) (.cells #[.string s, .int .i64 f, .int .i64 sn, .int .i64 sd, .int .i64 mn, .int .i64 md, .int .i64 ln, .int .i64 ld, .int .i64 c, .slice a1 n1 c1, .slice a2 n2 c2] 42)) zeroT
      have az := At.new1 w (.cells #[.string s, .int .i64 f, .int .i64 sn, .int .i64 sd, .int .i64 mn, .int .i64 md, .int .i64 ln, .int .i64 ld, .int .i64 c, .slice a1 n1 c1, .slice a2 n2 c2] 42) zeroT
      generalize World.alloc (World.alloc w _) _ = W0 at b0 az ⊢
      refine (CK.out _ b0).mono ?_
      rintro e W1 ⟨rfl, hb⟩
      have B1 := Lib.hid (below_then b0 hb); have AZ := Lib.hid (az.then_ hb)
      clear b0 az hb
      have z0 : W1.cell? ⟨w.heap.size + 1, 0, none⟩ = some (.string ⟨#[]⟩) := AZ.out.cell 0
      have zf0 : W1.frozen? ⟨w.heap.size + 1, 0, none⟩ = false := AZ.out.frozen 0
      have z1 : W1.cell? ⟨w.heap.size + 1, 1, none⟩ = some (.int .i64 0) := AZ.out.cell 1
      have zf1 : W1.frozen? ⟨w.heap.size + 1, 1, none⟩ = false := AZ.out.frozen 1
      have z2 : W1.cell? ⟨w.heap.size + 1, 2, none⟩ = some (.slice none 0 0) := AZ.out.cell 2
      have zf2 : W1.frozen? ⟨w.heap.size + 1, 2, none⟩ = false := AZ.out.frozen 2
      have z3 : W1.cell? ⟨w.heap.size + 1, 3, none⟩ = some (.slice none 0 0) := AZ.out.cell 3
      have zf3 : W1.frozen? ⟨w.heap.size + 1, 3, none⟩ = false := AZ.out.frozen 3
      have zl := AZ.out.lt
      go_wp2_with fail
      have AFN := AZ.out.store4 (.string ⟨#[]⟩) (.int .i64 0) (.slice none 0 0) (.slice none 0 0)
      have BL := Lib.hid (below_set4 B1.out (p := w.heap.size + 1) (by omega) (.string ⟨#[]⟩) (.int .i64 0) (.slice none 0 0) (.slice none 0 0))
      have e0 : ((((W1.setCell ⟨w.heap.size + 1, 0, none⟩ (.string ⟨#[]⟩)).setCell ⟨w.heap.size + 1, 1, none⟩ (.int .i64 0)).setCell ⟨w.heap.size + 1, 2, none⟩ (.slice none 0 0)).setCell ⟨w.heap.size + 1, 3, none⟩ (.slice none 0 0)).cell? ⟨w.heap.size + 1, 0, none⟩ = some (.string ⟨#[]⟩) := AFN.cell 0
      have e1 : ((((W1.setCell ⟨w.heap.size + 1, 0, none⟩ (.string ⟨#[]⟩)).setCell ⟨w.heap.size + 1, 1, none⟩ (.int .i64 0)).setCell ⟨w.heap.size + 1, 2, none⟩ (.slice none 0 0)).setCell ⟨w.heap.size + 1, 3, none⟩ (.slice none 0 0)).cell? ⟨w.heap.size + 1, 1, none⟩ = some (.int .i64 0) := AFN.cell 1
      have e2 : ((((W1.setCell ⟨w.heap.size + 1, 0, none⟩ (.string ⟨#[]⟩)).setCell ⟨w.heap.size + 1, 1, none⟩ (.int .i64 0)).setCell ⟨w.heap.size + 1, 2, none⟩ (.slice none 0 0)).setCell ⟨w.heap.size + 1, 3, none⟩ (.slice none 0 0)).cell? ⟨w.heap.size + 1, 2, none⟩ = some (.slice none 0 0) := AFN.cell 2
      have e3 : ((((W1.setCell ⟨w.heap.size + 1, 0, none⟩ (.string ⟨#[]⟩)).setCell ⟨w.heap.size + 1, 1, none⟩ (.int .i64 0)).setCell ⟨w.heap.size + 1, 2, none⟩ (.slice none 0 0)).setCell ⟨w.heap.size + 1, 3, none⟩ (.slice none 0 0)).cell? ⟨w.heap.size + 1, 3, none⟩ = some (.slice none 0 0) := AFN.cell 3
      exact bodyPost_ret (v := .tuple #[zeroV, .int .i64 1]) (by simp [results, Try.results15, go_sem, e0, e1, e2, e3]) rfl ⟨rfl, BL.out⟩
  · have d1 : ¬ years < 1 := by omega
    have d2 : ¬ 40 < years := by omega
    rcases h3 with h3 | h3
    · have d3 : first < -10000 := h3
      go_enter Try.func15, Try.ntmps15
      go_wp2_with fail
      have b0 := below_new (below_new (Below.refl w.heap.size w) (.cells #[.string s, .int .i64 f, .int .i64 sn, .int .i64 sd, .int .i64 mn, .int .i64 md, .int .i64 ln, .int .i64 ld, .int .i64 c, .slice a1 n1 c1, .slice a2 n2 c2] 42)) zeroT
      have az := At.new1 w (.cells #[.string s, .int .i64 f, .int .i64 sn, .int .i64 sd, .int .i64 mn, .int .i64 md, .int .i64 ln, .int .i64 ld, .int .i64 c, .slice a1 n1 c1, .slice a2 n2 c2] 42) zeroT
      generalize World.alloc (World.alloc w _) _ = W0 at b0 az ⊢
      refine (CK.out _ b0).mono ?_
      rintro e W1 ⟨rfl, hb⟩
      have B1 := Lib.hid (below_then b0 hb); have AZ := Lib.hid (az.then_ hb)
      clear b0 az hb
      have z0 : W1.cell? ⟨w.heap.size + 1, 0, none⟩ = some (.string ⟨#[]⟩) := AZ.out.cell 0
      have zf0 : W1.frozen? ⟨w.heap.size + 1, 0, none⟩ = false := AZ.out.frozen 0
      have z1 : W1.cell? ⟨w.heap.size + 1, 1, none⟩ = some (.int .i64 0) := AZ.out.cell 1
      have zf1 : W1.frozen? ⟨w.heap.size + 1, 1, none⟩ = false := AZ.out.frozen 1
      have z2 : W1.cell? ⟨w.heap.size + 1, 2, none⟩ = some (.slice none 0 0) := AZ.out.cell 2
      have zf2 : W1.frozen? ⟨w.heap.size + 1, 2, none⟩ = false := AZ.out.frozen 2
      have z3 : W1.cell? ⟨w.heap.size + 1, 3, none⟩ = some (.slice none 0 0) := AZ.out.cell 3
      have zf3 : W1.frozen? ⟨w.heap.size + 1, 3, none⟩ = false := AZ.out.frozen 3
      have zl := AZ.out.lt
      go_wp2_with fail
      have AFN := AZ.out.store4 (.string ⟨#[]⟩) (.int .i64 0) (.slice none 0 0) (.slice none 0 0)
      have BL := Lib.hid (below_set4 B1.out (p := w.heap.size + 1) (by omega) (.string ⟨#[]⟩) (.int .i64 0) (.slice none 0 0) (.slice none 0 0))
      have e0 : ((((W1.setCell ⟨w.heap.size + 1, 0, none⟩ (.string ⟨#[]⟩)).setCell ⟨w.heap.size + 1, 1, none⟩ (.int .i64 0)).setCell ⟨w.heap.size + 1, 2, none⟩ (.slice none 0 0)).setCell ⟨w.heap.size + 1, 3, none⟩ (.slice none 0 0)).cell? ⟨w.heap.size + 1, 0, none⟩ = some (.string ⟨#[]⟩) := AFN.cell 0
      have e1 : ((((W1.setCell ⟨w.heap.size + 1, 0, none⟩ (.string ⟨#[]⟩)).setCell ⟨w.heap.size + 1, 1, none⟩ (.int .i64 0)).setCell ⟨w.heap.size + 1, 2, none⟩ (.slice none 0 0)).setCell ⟨w.heap.size + 1, 3, none⟩ (.slice none 0 0)).cell? ⟨w.heap.size + 1, 1, none⟩ = some (.int .i64 0) := AFN.cell 1
      have e2 : ((((W1.setCell ⟨w.heap.size + 1, 0, none⟩ (.string ⟨#[]⟩)).setCell ⟨w.heap.size + 1, 1, none⟩ (.int .i64 0)).setCell ⟨w.heap.size + 1, 2, none⟩ (.slice none 0 0)).setCell ⟨w.heap.size + 1, 3, none⟩ (.slice none 0 0)).cell? ⟨w.heap.size + 1, 2, none⟩ = some (.slice none 0 0) := AFN.cell 2
      have e3 : ((((W1.setCell ⟨w.heap.size + 1, 0, none⟩ (.string ⟨#[]⟩)).setCell ⟨w.heap.size + 1, 1, none⟩ (.int .i64 0)).setCell ⟨w.heap.size + 1, 2, none⟩ (.slice none 0 0)).setCell ⟨w.heap.size + 1, 3, none⟩ (.slice none 0 0)).cell? ⟨w.heap.size + 1, 3, none⟩ = some (.slice none 0 0) := AFN.cell 3
      exact bodyPost_ret (v := .tuple #[zeroV, .int .i64 3]) (by simp [results, Try.results15, go_sem, e0, e1, e2, e3]) rfl ⟨rfl, BL.out⟩
    · have d3 : ¬ first < -10000 := by omega
      have d4 : 9960 < first := h3
      go_enter Try.func15, Try.ntmps15
      go_wp2_with fail
      have b0 := below_new (below_new (Below.refl w.heap.size w) (.cells #[.string s, .int .i64 f, .int .i64 sn, .int .i64 sd, .int .i64 mn, .int .i64 md, .int .i64 ln, .int .i64 ld, .int .i64 c, .slice a1 n1 c1, .slice a2 n2 c2] 42)) zeroT
      have az := At.new1 w (.cells #[.string s, .int .i64 f, .int .i64 sn, .int .i64 sd, .int .i64 mn, .int .i64 md, .int .i64 ln, .int .i64 ld, .int .i64 c, .slice a1 n1 c1, .slice a2 n2 c2] 42) zeroT
      generalize World.alloc (World.alloc w _) _ = W0 at b0 az ⊢
      refine (CK.out _ b0).mono ?_
      rintro e W1 ⟨rfl, hb⟩
      have B1 := Lib.hid (below_then b0 hb); have AZ := Lib.hid (az.then_ hb)
      clear b0 az hb
      have z0 : W1.cell? ⟨w.heap.size + 1, 0, none⟩ = some (.string ⟨#[]⟩) := AZ.out.cell 0
      have zf0 : W1.frozen? ⟨w.heap.size + 1, 0, none⟩ = false := AZ.out.frozen 0
      have z1 : W1.cell? ⟨w.heap.size + 1, 1, none⟩ = some (.int .i64 0) := AZ.out.cell 1
      have zf1 : W1.frozen? ⟨w.heap.size + 1, 1, none⟩ = false := AZ.out.frozen 1
      have z2 : W1.cell? ⟨w.heap.size + 1, 2, none⟩ = some (.slice none 0 0) := AZ.out.cell 2
      have zf2 : W1.frozen? ⟨w.heap.size + 1, 2, none⟩ = false := AZ.out.frozen 2
      have z3 : W1.cell? ⟨w.heap.size + 1, 3, none⟩ = some (.slice none 0 0) := AZ.out.cell 3
      have zf3 : W1.frozen? ⟨w.heap.size + 1, 3, none⟩ = false := AZ.out.frozen 3
      have zl := AZ.out.lt
      go_wp2_with fail
      have AFN := AZ.out.store4 (.string ⟨#[]⟩) (.int .i64 0) (.slice none 0 0) (.slice none 0 0)
      have BL := Lib.hid (below_set4 B1.out (p := w.heap.size + 1) (by omega) (.string ⟨#[]⟩) (.int .i64 0) (.slice none 0 0) (.slice none 0 0))
      have e0 : ((((W1.setCell ⟨w.heap.size + 1, 0, none⟩ (.string ⟨#[]⟩)).setCell ⟨w.heap.size + 1, 1, none⟩ (.int .i64 0)).setCell ⟨w.heap.size + 1, 2, none⟩ (.slice none 0 0)).setCell ⟨w.heap.size + 1, 3, none⟩ (.slice none 0 0)).cell? ⟨w.heap.size + 1, 0, none⟩ = some (.string ⟨#[]⟩) := AFN.cell 0
      have e1 : ((((W1.setCell ⟨w.heap.size + 1, 0, none⟩ (.string ⟨#[]⟩)).setCell ⟨w.heap.size + 1, 1, none⟩ (.int .i64 0)).setCell ⟨w.heap.size + 1, 2, none⟩ (.slice none 0 0)).setCell ⟨w.heap.size + 1, 3, none⟩ (.slice none 0 0)).cell? ⟨w.heap.size + 1, 1, none⟩ = some (.int .i64 0) := AFN.cell 1
      have e2 : ((((W1.setCell ⟨w.heap.size + 1, 0, none⟩ (.string ⟨#[]⟩)).setCell ⟨w.heap.size + 1, 1, none⟩ (.int .i64 0)).setCell ⟨w.heap.size + 1, 2, none⟩ (.slice none 0 0)).setCell ⟨w.heap.size + 1, 3, none⟩ (.slice none 0 0)).cell? ⟨w.heap.size + 1, 2, none⟩ = some (.slice none 0 0) := AFN.cell 2
      have e3 : ((((W1.setCell ⟨w.heap.size + 1, 0, none⟩ (.string ⟨#[]⟩)).setCell ⟨w.heap.size + 1, 1, none⟩ (.int .i64 0)).setCell ⟨w.heap.size + 1, 2, none⟩ (.slice none 0 0)).setCell ⟨w.heap.size + 1, 3, none⟩ (.slice none 0 0)).cell? ⟨w.heap.size + 1, 3, none⟩ = some (.slice none 0 0) := AFN.cell 3
      exact bodyPost_ret (v := .tuple #[zeroV, .int .i64 3]) (by simp [results, Try.results15, go_sem, e0, e1, e2, e3]) rfl ⟨rfl, BL.out⟩
set_option maxHeartbeats 4000000 in
theorem ref_SameTable (w : World) (s : ByteArray) (first : Int) (a1 a2 b1 b2 : Option Addr) (n1 n2 c1 c2 m1 m2 d1 d2 : Nat) (xs ys : List Int)
    (h1 : Ints w w.heap.size a1 n1 xs) (h2 : Ints w w.heap.size a2 n2 ys) (g1 : Ints w w.heap.size b1 m1 xs) (g2 : Ints w w.heap.size b2 m2 ys) :
    Calls Try.prog 22 #[.agg #[.string s, .int .i64 first, .slice a1 n1 c1, .slice a2 n2 c2], .agg #[.string s, .int .i64 first, .slice b1 m1 d1, .slice b2 m2 d2]] w fun e w' => e = .returned (.bool true) ∧ Below w.heap.size w w' := by
  have H1 := Lib.hid h1; have H2 := Lib.hid h2; have G1 := Lib.hid g1; have G2 := Lib.hid g2
  clear h1 h2 g1 g2
  go_enter Try.func22, Try.ntmps22
  go_wp2_with fail
  have t0 := (At.new w (.cells #[.string s, .int .i64 first, .slice a1 n1 c1, .slice a2 n2 c2] 44)).alloc (.cells #[.string s, .int .i64 first, .slice b1 m1 d1, .slice b2 m2 d2] 44)
  have t1 := At.new1 w (.cells #[.string s, .int .i64 first, .slice a1 n1 c1, .slice a2 n2 c2] 44) (.cells #[.string s, .int .i64 first, .slice b1 m1 d1, .slice b2 m2 d2] 44)
  have b0 := below_new (below_new (Below.refl w.heap.size w) (.cells #[.string s, .int .i64 first, .slice a1 n1 c1, .slice a2 n2 c2] 44)) (.cells #[.string s, .int .i64 first, .slice b1 m1 d1, .slice b2 m2 d2] 44)
  generalize World.alloc (World.alloc w _) _ = W0 at t0 t1 b0 ⊢
  have B0 := Lib.hid b0; have T0 := Lib.hid t0; have T1 := Lib.hid t1
  clear t0 t1 b0
  refine (ref_SameInts _ _ _ _ _ _ _ xs xs (H1.out.far B0.out (Below.refl _ _)) (G1.out.far B0.out (Below.refl _ _))).mono ?_
  rw [show (xs == xs) = true by simp]
  rintro e w1 ⟨rfl, hd1⟩
  have B1 := Lib.hid (below_drawn B0.out hd1)
  have t0 := T0.out.drawn hd1; have t1 := T1.out.drawn hd1
  have y2 : w1.cell? ⟨w.heap.size, 2, none⟩ = some (.slice a1 n1 c1) := (t0).cell 2
  have y3 : w1.cell? ⟨w.heap.size, 3, none⟩ = some (.slice a2 n2 c2) := (t0).cell 3
  have x2 : w1.cell? ⟨(w.heap.size + 1), 2, none⟩ = some (.slice b1 m1 d1) := (t1).cell 2
  have x3 : w1.cell? ⟨(w.heap.size + 1), 3, none⟩ = some (.slice b2 m2 d2) := (t1).cell 3
  clear t0 t1
  go_wp2_with fail
  refine (ref_SameInts _ _ _ _ _ _ _ ys ys (H2.out.far B1.out (Below.refl _ _)) (G2.out.far B1.out (Below.refl _ _))).mono ?_
  rw [show (ys == ys) = true by simp]
  rintro e w2 ⟨rfl, hd2⟩
  have b2 := below_drawn B1.out hd2
  go_wp2_with fail
  go_ret
  exact ⟨rfl, b2⟩
end Go.Proofs.Ytjjmbnflhldoeaa
