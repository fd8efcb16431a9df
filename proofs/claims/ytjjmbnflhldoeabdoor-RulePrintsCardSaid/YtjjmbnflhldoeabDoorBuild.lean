/- strings.Builder (WriteString, String) in the words of this seat's contracts. -/
import Derived.Test.YtjjmbnflhldoeabDoorMem2
import Derived.Test.YtjjmbnflhldoeabDoorLayBuild
import Derived.Shelf.Strings.BuilderK
namespace Go.Proofs.YtjjmbnflhldoeabDoor
set_option linter.unusedVariables false
set_option maxRecDepth 100000
open Go.RowKit Go.Shelf

def laysn166_ren : Go.Shelf.Ren := ⟨fun | 166 => 26 | 240 => 50 | 276 => 72 | n => n, fun | 0 => 0 | 3 => 3 | 4 => 4 | 5 => 5 | 9 => 9 | 20 => 20 | 37 => 59 | 70 => 58 | 72 => 61 | 75 => 63 | 80 => 70 | 164 => 102 | n => n, fun | n => n⟩
theorem laysn166 : Go.Proofs.Lays.n166 Tryd.prog laysn166_ren := {
  mixed := by kernel_rfl
  f166 := Tryd.func26.trans (congrArg some (by kernel_rfl))
  f240 := Tryd.func50.trans (congrArg some (by kernel_rfl))
  f276 := Tryd.func72.trans (congrArg some (by kernel_rfl))
  t0 := Tryd.underlying0
  a0 := Tryd.isAgg0
  z0 := Tryd.sizeOf0
  v0 := Tryd.zeroValue0
  t3 := Tryd.underlying3
  a3 := Tryd.isAgg3
  z3 := Tryd.sizeOf3
  v3 := Tryd.zeroValue3
  t4 := Tryd.underlying4
  a4 := Tryd.isAgg4
  z4 := Tryd.sizeOf4
  v4 := Tryd.zeroValue4
  t9 := Tryd.underlying9
  a9 := Tryd.isAgg9
  z9 := Tryd.sizeOf9
  v9 := Tryd.zeroValue9
  t20 := Tryd.underlying20
  a20 := Tryd.isAgg20
  z20 := Tryd.sizeOf20
  v20 := Tryd.zeroValue20
  t37 := Tryd.underlying59
  a37 := Tryd.isAgg59
  z37 := Tryd.sizeOf59
  v37 := Tryd.zeroValue59
  t70 := Tryd.underlying58
  a70 := Tryd.isAgg58
  z70 := Tryd.sizeOf58
  v70 := Tryd.zeroValue58
  t72 := Tryd.underlying61
  a72 := Tryd.isAgg61
  z72 := Tryd.sizeOf61
  v72 := Tryd.zeroValue61
  t75 := Tryd.underlying63
  a75 := Tryd.isAgg63
  z75 := Tryd.sizeOf63
  v75 := Tryd.zeroValue63
  t164 := Tryd.underlying102
  a164 := Tryd.isAgg102
  z164 := Tryd.sizeOf102
  v164 := Tryd.zeroValue102
}
theorem extra166 : Builder.Extra Tryd.prog laysn166_ren where
  sizeBuilder := by kernel_rfl
  liesBuilder := by kernel_rfl
  t5 := Tryd.underlying5
  a5 := Tryd.isAgg5
  z5 := Tryd.sizeOf5
  v5 := Tryd.zeroValue5
  infoByte := by kernel_rfl
  cellsByte := by kernel_rfl
  sizeByte := by kernel_rfl
  neB5 := by decide
theorem extra169 : Builder.Extra Tryd.prog Tryd.laysn169_ren where
  sizeBuilder := by kernel_rfl
  liesBuilder := by kernel_rfl
  t5 := Tryd.underlying5
  a5 := Tryd.isAgg5
  z5 := Tryd.sizeOf5
  v5 := Tryd.zeroValue5
  infoByte := by kernel_rfl
  cellsByte := by kernel_rfl
  sizeByte := by kernel_rfl
  neB5 := by decide

/-- Block b is a builder of the call's own that holds these bytes. -/
def Built (b : Nat) (l : List UInt8) (w : World) : Prop := Lib.IsBuilderF 61 5 b b (Lib.byteCells l) w
theorem Built.new (w : World) : Built w.heap.size [] (w.alloc (.cells #[.pointer none, .slice none 0 0] 61)) := Lib.IsBuilderF.of (Lib.fresh_isBuilder _ _ w)
theorem Built.below {b : Nat} {l : List UInt8} {W W' : World} (h : Built b l W) (hb : Below W.heap.size W W') : Built b l W' := by
  have key : ∀ p, Lib.BuilderAtF 61 5 b b p (Lib.byteCells l) W → Lib.BuilderAtF 61 5 b b p (Lib.byteCells l) W' := by
    intro p h
    have hlt := h.lt
    obtain ⟨hB, v, hv, hown, hne⟩ := h
    exact ⟨hB, v, (hb.block b hlt).trans hv, hown.kept (row := none) ⟨hb.os, hb.tape, hb.output, hb.size, fun k hk _ => hb.block k hk⟩ (Classical.em _), hne⟩
  exact h.elim (fun x => .inl (key _ x)) (fun x => .inr (key _ x))
theorem Built.lt {b : Nat} {l : List UInt8} {W : World} (h : Built b l W) : b < W.heap.size := h.elim (fun x => x.lt) (fun x => x.lt)
theorem Built.drew {b : Nat} {l : List UInt8} {W : World} (h : Built b l W) : Built b l W.drew := h
theorem lib_WriteString (b : Nat) (l : List UInt8) (s : ByteArray) (w : World) (h : Built b l w) (hlen : l.length + s.size ≤ 140737488355328) :
    Calls Tryd.prog 26 #[.pointer (some ⟨b, 0, none⟩), .string s] w fun e w' => e = .returned (.tuple #[.int .i64 s.size, .nilIface]) ∧ Built b (l ++ s.data.toList) w' ∧ Below b w w' := by
  have hlt := h.lt
  refine (Any.Builder_WriteString_k laysn166 extra166 b b (Lib.byteCells l) s w h (by rw [Lib.byteCells_length]; exact hlen) (by omega)).mono ?_
  rintro e w' ⟨rfl, hat, hb, _⟩
  refine ⟨rfl, ?_, hb⟩
  unfold Built
  rw [Lib.byteCells_append]
  exact .inr hat
theorem lib_WriteStringK (b : Nat) (l : List UInt8) (s : ByteArray) (w : World) (h : Built b l w) (hlen : l.length + s.size ≤ 140737488355328) :
    Calls Tryd.prog 26 #[.pointer (some ⟨b, 0, none⟩), .string s] w fun e w' => e = .returned (.tuple #[.int .i64 s.size, .nilIface]) ∧ (Built b (l ++ s.data.toList) w' ∧ Below b w w') ∧ Lib.OthersKept 5 (some b) w w' := by
  have hlt := h.lt
  refine (Any.Builder_WriteString_k laysn166 extra166 b b (Lib.byteCells l) s w h (by rw [Lib.byteCells_length]; exact hlen) (by omega)).mono ?_
  rintro e w' ⟨rfl, hat, hb, hk⟩
  refine ⟨rfl, ⟨?_, hb⟩, hk⟩
  unfold Built
  rw [Lib.byteCells_append]
  exact .inr hat
theorem At.others {w w' : World} {C b : Nat} {cs : Array Value} {t : TypeId} (h : At w C (.cells cs t)) (k : Lib.OthersKept 5 (some b) w w') (hne : C ≠ b) (ht : t ≠ 5) : At w' C (.cells cs t) :=
  k C _ h (fun e => hne (Option.some.inj e)) fun c fz e => by injection e with _ e2 _; exact ht e2
theorem lib_String (b : Nat) (l : List UInt8) (w : World) (h : Built b l w) (h0 : l ≠ []) :
    Calls Tryd.prog 29 #[.pointer (some ⟨b, 0, none⟩)] w fun e w' => e = .returned (.string ⟨l.toArray⟩) ∧ Below b w w' :=
  (Any.Builder_String_k Tryd.laysn169 extra169 b b l w h h0).mono fun e w' ⟨he, _, hb, _⟩ => ⟨he, hb⟩
end Go.Proofs.YtjjmbnflhldoeabDoor
