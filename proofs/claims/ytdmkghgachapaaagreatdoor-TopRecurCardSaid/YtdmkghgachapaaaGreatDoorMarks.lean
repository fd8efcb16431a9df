/- The marks of several ranges over functions among the deferred calls of one function; a drawn region of a round. -/
import Derived.Test.YtdmkghgachapaaaGreatDoorMgA
import Derived.RangeFuncLeaves
import Derived.RangeFuncCalls
import Derived.RangeFuncRecord
import Derived.OrdersIn
namespace Go.Proofs.YtdmkghgachapaaaGreatDoor
set_option linter.unusedVariables false
set_option linter.unusedSimpArgs false
set_option maxRecDepth 100000
open Go.RowKit

def markD (D : Nat) : Deferred := { target := .collected D, args := #[] }
/-- What the shutting of marks leaves. -/
structure ShutD (Ds : List Nat) (W W' : World) : Prop where
  os : W'.os = W.os
  tape : W'.tape = W.tape
  output : W'.output = W.output
  size : W'.heap.size = W.heap.size
  block : ∀ k, k ∉ Ds → W'.heap[k]? = W.heap[k]?
theorem ShutD.below {Ds : List Nat} {W W' : World} (h : ShutD Ds W W') {n : Nat} {w : World} (hb : Below n w W) (hD : ∀ D ∈ Ds, n ≤ D) : Below n w W' :=
  ⟨h.os.trans hb.os, h.tape.trans hb.tape, h.output.trans hb.output, by rw [h.size]; exact hb.size, fun k hk => (h.block k (fun hm => by have := hD k hm; omega)).trans (hb.block k hk)⟩
def MarksOk (Ds : List Nat) (W : World) : Prop := Ds.Nodup ∧ ∀ D ∈ Ds, W.heap[D]? = some (.deferred (some []))
theorem MarksOk.fresh {Ds : List Nat} {W : World} (h : MarksOk Ds W) {b : Nat} {o : Obj} (hb : W.heap[b]? = some o) (ho : o.isCells = true) : b ∉ Ds := fun hm => by
  have := h.2 b hm
  rw [hb] at this; cases this; cases ho
theorem MarksOk.keep {Ds : List Nat} {W W' : World} (h : MarksOk Ds W) (hk : ∀ (k : Nat) (o : Obj), W.heap[k]? = some o → o.isCells = false → W'.heap[k]? = some o) : MarksOk Ds W' := ⟨h.1, fun D hD => hk D _ (h.2 D hD) rfl⟩
theorem ShutD.at_ {Ds : List Nat} {W W' : World} (h : ShutD Ds W W') (hm : MarksOk Ds W) {b : Nat} {o : Obj} (ha : At W b o) (ho : o.isCells = true) : At W' b o := (h.block b (hm.fresh ha ho)).trans ha
theorem leaves_marks {F : Fence} {n : Nat} {P : Program} {fn : Func} {tmps : Array Value} {R : Ending → World → Prop} :
    ∀ (Ds : List Nat) (W : World), MarksOk Ds W → (∀ W', ShutD Ds W W' → LeavesIn F n P fn tmps R [] .returning W') → LeavesInM F n P fn tmps R (Ds.map markD) .returning W
  | [], W, _, h => h W ⟨rfl, rfl, rfl, rfl, fun _ _ => rfl⟩
  | D :: Ds, W, hm, h => by
    refine ⟨by simp, .inl ⟨D, _, rfl, run_takeDeferred (hm.2 D (by simp)), ?_⟩⟩
    have hnd := List.nodup_cons.1 hm.1
    refine leaves_marks Ds _ ⟨hnd.2, fun E hE => (World.putObj_heap_other (by intro e; subst e; exact hnd.1 hE)).trans (hm.2 E (by simp [hE]))⟩ fun W' hs => ?_
    refine h W' ⟨hs.os, hs.tape, hs.output, by rw [hs.size]; simp [World.putObj], fun k hk => ?_⟩
    have h1 : k ∉ Ds := fun e => hk (by simp [e])
    have h2 : k ≠ D := fun e => hk (by simp [e])
    exact (hs.block k h1).trans (World.putObj_heap_other h2)

def onlyN (K : Act → World → Prop) : Exit → Act → World → Prop
  | .normal, a, w => K a w
  | _, _, _ => False
theorem only_normal {F : Fence} {n : Nat} {P : Program} {c : Code} {Q : Exit → Act → World → Prop} {a : Act} {w : World} (h : c.wpIn F n P (onlyN fun a w => Q .normal a w) a w) : c.wpIn F n P Q a w :=
  wpIn_mono h fun e a w hq => by cases e <;> first | exact hq | exact hq.elim

section
variable {P : Program} {l n : Nat} {K : Act → World → Prop}
theorem opIn_of_wp {o : Oper} {a : Act} {w : World} {next next' : Act → World → Prop} (hnd : ∀ c, o.op ≠ .defer c) (hn : ∀ a w, next a w → next' a w) (h : o.wp P a w next (onlyN K)) :
    o.wpIn (Fence.wide.inRound l) n P a w next' (onlyN K) := by
  refine ⟨fun f _ => trivial, ?_⟩
  have e : o.semAt (Fence.wide.inRound l).round a.eval = execOp a.eval o := Oper.semAt_some l _ _ hnd
  rw [e]
  unfold Oper.wp at h
  generalize (execOp a.eval o).run P w = r at *
  have hd : (Fence.wide.inRound l).depth.isSome = true → 1 ≤ n := fun h => by cases h
  have lo : ¬ LetsOut (onlyN K) := fun ⟨_, _, h⟩ => h
  cases r with
  | ok x w' =>
    cases x with
    | value v => exact hn _ _ h
    | skip => exact hn _ _ h
    | defer d => exact hn _ _ h
    | enter f args =>
      refine ⟨hd, CallsIn.inRound l ((callsIn_wide.2 h).mono ?_)⟩
      intro e w'' he
      cases e with
      | returned v => exact hn _ _ he
      | panicked c => exact he
      | outgrown => exact he
    | row row args =>
      refine ⟨hd, fun c cs _ => ?_⟩
      obtain ⟨v, w', hr, hs⟩ := h c cs
      exact ⟨v, w', hn _ _ hr, stepsIn_wide.2 hs⟩
    | _ => exact h.elim
  | halt x w' =>
    cases x with
    | panic v => exact h
    | _ => exact h.elim
theorem anyIn_of_any {md : Region.Mode} {ops : Array Oper} (hnd : ∀ (i : Nat) (o : Oper), ops[i]? = some o → ∀ c, o.op ≠ .defer c) : ∀ (fuel : Nat) (listed : Array Bool) (a : Act) (w : World),
    wpAny P md ops (onlyN K) fuel listed a w → wpAnyIn (Fence.wide.inRound l) n P md ops (onlyN K) fuel listed a w
  | 0, listed, a, w, h => h
  | fuel + 1, listed, a, w, h => by
    refine ⟨h.1, fun i hi => ?_⟩
    have h1 := h.2 i hi
    unfold wpOp at h1
    unfold wpOpIn
    cases ho : ops[i]? with
    | none => rw [ho] at h1; exact anyIn_of_any hnd fuel _ _ _ h1
    | some o =>
      rw [ho] at h1
      simp only at h1 ⊢
      by_cases hw : Region.wanted o (yielded ops a.tmps) = true
      · rw [if_pos hw] at h1 ⊢
        rcases h1 with h1 | ⟨_, _, _, h1⟩
        · exact opIn_of_wp (hnd i o ho) (fun a w h => anyIn_of_any hnd fuel _ _ _ h) h1
        · exact h1.elim
      · rw [if_neg hw] at h1 ⊢
        exact ⟨fun f _ => trivial, anyIn_of_any hnd fuel _ _ _ h1⟩
def noDefer (ops : Array Oper) : Bool := ops.all fun o => match o.op with | .defer _ => false | _ => true
theorem noDefer_of {ops : Array Oper} (h : noDefer ops = true) : ∀ (i : Nat) (o : Oper), ops[i]? = some o → ∀ c, o.op ≠ .defer c := fun i o ho c hc => by
  obtain ⟨hi, rfl⟩ := Array.getElem?_eq_some_iff.1 ho
  have := (Array.all_eq_true.1 h) i hi
  rw [hc] at this
  cases this
/-- A drawn region of a round, walked as a region anywhere. -/
theorem round_held {S : World → Prop} {ops : Array Oper} {id : Nat} {a : Act} {w : World} (hm : P.follows .mixedOrders = true) (hnd : noDefer ops = true) (hS : S w.drew)
    (h : S w.drew → wpAnyH P .any ops (onlyN K) S ops.size (Array.replicate ops.size false) a w.drew) : (Code.region id ops true).wpIn (Fence.wide.inRound l) n P (onlyN K) a w :=
  wpIn_region_any hm (anyIn_of_any (noDefer_of hnd) _ _ _ _ (wpAny_of_held _ _ _ _ (h hS)))
end
end Go.Proofs.YtdmkghgachapaaaGreatDoor
