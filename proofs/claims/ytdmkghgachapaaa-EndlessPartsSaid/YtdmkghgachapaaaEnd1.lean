/- The law's sequence of a list: it counts in a variable how many elements were asked for. -/
import Derived.Test.YtdmkghgachapaaaEnd0
import Derived.Test.YtdmkghgachapaaaStore
import Derived.RangeFuncBox
namespace Go.Proofs.Ytdmkghgachapaaa
set_option linter.unusedVariables false
set_option linter.unusedSimpArgs false
set_option maxRecDepth 100000
open Go.RowKit Go.Shelf

/-- What the variable tells: u, and the elements that were asked for. -/
def StU (b : Nat) (u : Int) (pre : List Int) (W : World) : Prop := Boxed W b 3 (.int .i64 (u + pre.length))
theorem StU.keep {b : Nat} {u : Int} : ∀ (s : List Int) (A C : World), StU b u s A → C.heap[b]? = A.heap[b]? → StU b u s C := fun s A C h e => e.trans h
/-- The blocks of the sequence: its two boxes, the variable, the list. -/
def KSeq (B b : Nat) (a : Option Addr) (k : Nat) : Prop := k = B ∨ k = B + 1 ∨ k = b ∨ ∃ off sp, a = some ⟨k, off, sp⟩
def seqF (B : Nat) : Value := .func (.func 11) #[] #[.pointer (some ⟨B, 0, none⟩), .pointer (some ⟨B + 1, 0, none⟩)]
theorem law_seq (a : Option Addr) (n c b : Nat) (w : World) : Calls Try.prog 5 #[.slice a n c, .pointer (some ⟨b, 0, none⟩)] w fun e w' => e = .returned (seqF w.heap.size) ∧ w' = (w.alloc (.cells #[.slice a n c] 22)).alloc (.cells #[.pointer (some ⟨b, 0, none⟩)] 27) := by
  go_enter Try.func5, Try.ntmps5
  go_wp2
  go_ret
  exact ⟨rfl, rfl⟩
theorem setU (W : World) (b : Nat) (v : Value) : ∀ k : Nat, k ≠ b → (W.setCell ⟨b, 0, none⟩ v).heap[k]? = W.heap[k]? := fun k hk => Below.heap_setCell _ _ _ k hk
set_option maxHeartbeats 4000000 in
theorem seq_iter (n : Nat) (B b : Nat) (a : Option Addr) (len c : Nat) (xs : List Int) (u : Int) (w : World) (hl : len ≤ 100) (hu1 : 0 ≤ u) (hu2 : u ≤ 1000)
    (b0 : Boxed w B 22 (.slice a len c)) (b1 : Boxed w (B + 1) 27 (.pointer (some ⟨b, 0, none⟩))) (hI : Ints w w.heap.size a len xs) (hne : b ≠ B) (hne1 : b ≠ B + 1) (hna : ∀ g off sp, a = some ⟨g, off, sp⟩ → g ≠ b) :
    SeqSt n Try.prog 11 #[.pointer (some ⟨B, 0, none⟩), .pointer (some ⟨B + 1, 0, none⟩)] (fun x : Int => #[Value.int .i64 x]) b (KSeq B b a) (StU b u) xs w := by
  intro l F J Jx W hsz hK hst hF hJ hJx hY h0
  have HY := Lib.hid hY; have HJ := Lib.hid hJ; have HF := Lib.hid hF
  have L1 := Lib.hid hI.1
  have HI := Lib.hid hI
  clear hY hJ hF hI
  have a0 : Boxed W B 22 (.slice a len c) := (hK B (.inl rfl)).trans b0
  have a1 : Boxed W (B + 1) 27 (.pointer (some ⟨b, 0, none⟩)) := (hK (B + 1) (.inr (.inl rfl))).trans b1
  have hBl := a0.lt; have hB1l := a1.lt
  have hbl : b < W.heap.size := (show Boxed W b _ _ from hst).lt
  have y0 := a0.cell
  refine callsIn_of_wp Try.func11 rfl trivial ?_ rfl
  simp only [Try.ntmps11, List.size_toArray, List.length_cons, List.length_nil, Nat.reduceAdd, Nat.reduceSub, Array.replicate_succ, Array.replicate_zero, List.push_toArray, List.append_toArray, List.nil_append, List.cons_append]
  gi_wp2
  gi_loopw [8] (fun i wr => ∃ (k : Nat) (r : Option Nat), k ≤ len ∧ i = .int .i64 k ∧ J (xs.take k) r wr ∧ StU b u (xs.take k) wr ∧ (∀ q, KSeq B b a q → q ≠ b → wr.heap[q]? = W.heap[q]?) ∧ (∀ q, r = some q → W.heap.size ≤ q) ∧ W.heap.size ≤ wr.heap.size) (fun i _ => len - (intOf i).toNat)
  case atStart => exact ⟨0, none, by omega, rfl, h0, hst, fun _ _ _ => rfl, by simp, Nat.le_refl _⟩
  case round =>
    obtain ⟨k, r, hk, rfl, hJw, hstw, hKw, hr, hsw⟩ := hrel
    by_cases hlt : k < len
    · obtain ⟨g, off, x, rfl, hg, hc, hx, _, _⟩ := HI.out.at_ hlt
      have hgb := hna g off none rfl
      have hgK : KSeq B b (some ⟨g, off, none⟩) g := .inr (.inr (.inr ⟨off, none, rfl⟩))
      have hgW : W.heap[g]? = w.heap[g]? := hK g hgK
      have hcr : wr.cell? ⟨g, off + k, none⟩ = some (.int .i64 x) := by
        have e : wr.heap[g]? = w.heap[g]? := (hKw g hgK hgb).trans hgW
        unfold World.cell? at hc ⊢
        rw [e]; exact hc
      have hgr : g < wr.heap.size := by omega
      have e1 : Boxed wr (B + 1) 27 (.pointer (some ⟨b, 0, none⟩)) := (hKw (B + 1) (.inr (.inl rfl)) (fun e => hne1 e.symm)).trans a1
      have y1 := e1.cell
      have hlk : (xs.take k).length = k := by rw [List.length_take, L1.out]; omega
      have hb0 : Boxed wr b 3 (.int .i64 (u + k)) := by have := hstw; unfold StU at this; rw [hlk] at this; exact this
      have y2 := hb0.cell; have f2 := hb0.frozen
      have hbl2 := hb0.lt
      have htk : xs.take (k + 1) = xs.take k ++ [x] := by rw [List.take_add_one, hx]; rfl
      obtain ⟨W3, hW3⟩ : ∃ W3, W3 = wr.setCell ⟨b, 0, none⟩ (.int .i64 (u + k + 1)) := ⟨_, rfl⟩
      have hz3 : W3.heap.size = wr.heap.size := by rw [hW3]; simp [World.setCell]
      have hst3 : StU b u (xs.take k ++ [x]) W3 := by
        unfold StU
        rw [List.length_append, hlk, hW3]
        have := hb0.set (.int .i64 (u + k + 1))
        simpa [Int.add_assoc] using this
      have ho3 : ∀ q : Nat, q ≠ b → W3.heap[q]? = wr.heap[q]? := by rw [hW3]; exact setU wr b _
      have hJ3 : J (xs.take k) r W3 := HJ.out _ _ _ _ hJw (by rw [hW3]; exact ⟨rfl, rfl, rfl⟩) (by omega) fun q hq hqb _ => ho3 q hqb
      obtain ⟨fn, tmps, assign, body, hy, hR⟩ := HY.out (xs.take k) x r W3 hJ3 hst3 ⟨xs.drop (k + 1), by
        have := List.take_append_drop (k + 1) xs
        rw [htk] at this
        simpa using this.symm⟩ (by omega) hr
      have HR := Lib.hid hR
      have HTK := Lib.hid htk
      have HX := Lib.hid hx
      have HST := Lib.hid hst3
      have hw1 : IntKind.i64.wrap (u + k + 1) = u + k + 1 := IntWalk.i64_in _ (by omega)
      clear hR htk hx hst3 hstw hJw hb0
      rw [hW3] at hy
      have HW3 := Lib.hid hW3
      clear hW3
      gi_wp2
      refine ⟨fun h => by simp [Fence.wide] at h, ?_⟩
      have hR := HR.out
      rw [HW3.out] at hR
      refine hR.mono ?_
      rintro e W4 ⟨r', hn4, ho4, (⟨rfl, hJ4⟩ | ⟨rfl, hJx4⟩)⟩
      · rw [← HW3.out] at hn4 ho4
        have hs4 : W.heap.size ≤ W4.heap.size := by have := ho4.1; omega
        have hkp : ∀ q, q < W.heap.size → KSeq B b (some ⟨g, off, none⟩) q → W4.heap[q]? = W3.heap[q]? := fun q hq hK4 => ho4.2 q (by omega) (fun hf => (HF.out q hf).2 hK4) (fun e => by have := hr q e; omega)
        have hr' : ∀ q, r' = some q → W.heap.size ≤ q := fun q hq => by
          rcases hn4 with rfl | ⟨k', rfl, hk'⟩
          · exact hr q hq
          · injection hq with hq; omega
        gi_wp2
        go_roundw
        case rel =>
          refine ⟨k + 1, r', by omega, by go_num, by rw [HTK.out]; exact hJ4, by rw [HTK.out]; exact StU.keep _ _ _ HST.out (hkp b hbl (.inr (.inr (.inl rfl)))), fun q hq hqb => ?_, hr', hs4⟩
          have hqW : q < W.heap.size := by
            rcases hq with rfl | rfl | rfl | ⟨o2, s2, e⟩
            · exact hBl
            · exact hB1l
            · exact hbl
            · cases e; omega
          exact (hkp q hqW hq).trans ((ho3 q hqb).trans (hKw q hq hqb))
        case measure => first | (simp [intOf]; done) | (simp [intOf]; omega)
      · rw [← HW3.out] at hn4 ho4
        have hr' : ∀ q, r' = some q → W.heap.size ≤ q := fun q hq => by
          rcases hn4 with rfl | ⟨k', rfl, hk'⟩
          · exact hr q hq
          · injection hq with hq; omega
        have hb4 : W4.heap[b]? = W3.heap[b]? := ho4.2 b (by omega) (fun hf => (HF.out b hf).2 (.inr (.inr (.inl rfl)))) (fun e => by have := hr b e; omega)
        gi_wp2
        refine bodyPost_ret (results_none rfl _ _ _) rfl ?_
        exact ⟨⟨_, rfl⟩, r', hr', .inr ⟨xs.take k ++ [x], ⟨xs.drop (k + 1), by rw [← HTK.out, List.take_append_drop]⟩, hJx4, StU.keep _ _ _ HST.out hb4⟩⟩
    · have htk : xs.take k = xs := List.take_of_length_le (by rw [L1.out]; omega)
      rw [htk] at hJw hstw
      gi_wp2
      go_end0
      exact ⟨⟨_, rfl⟩, r, hr, .inl ⟨hJw, hstw⟩⟩
end Go.Proofs.Ytdmkghgachapaaa
