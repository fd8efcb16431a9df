/- Contract of numeral.sign: the signs of the Greek and the Hebrew numerals. -/
import Derived.Test.YticflmepmmdnfabDoorNml2
namespace Go.Proofs.YticflmepmmdnfabDoor
set_option linter.unusedVariables false
set_option linter.unusedSimpArgs false
set_option maxRecDepth 100000
open Go.RowKit Go.Shelf Nml

def gRow (p : Nat) : Array Value := match p with | 0 => #[.int .i32 945, .int .i32 946, .int .i32 947, .int .i32 948, .int .i32 949, .int .i32 987, .int .i32 950, .int .i32 951, .int .i32 952] | 1 => #[.int .i32 953, .int .i32 954, .int .i32 955, .int .i32 956, .int .i32 957, .int .i32 958, .int .i32 959, .int .i32 960, .int .i32 991] | _ => #[.int .i32 961, .int .i32 963, .int .i32 964, .int .i32 965, .int .i32 966, .int .i32 967, .int .i32 968, .int .i32 969, .int .i32 993]
def gCp (p n : Nat) : Int := (([[945, 946, 947, 948, 949, 987, 950, 951, 952], [953, 954, 955, 956, 957, 958, 959, 960, 991], [961, 963, 964, 965, 966, 967, 968, 969, 993]] : List (List Int)).getD p []).getD (n - 1) 0
theorem g_idx (p : Nat) (hp : p < 3) : ∀ W : World, (Instr.index 100 (.agg #[.int .i32 945, .int .i32 946, .int .i32 947, .int .i32 948, .int .i32 949, .int .i32 987, .int .i32 950, .int .i32 951, .int .i32 952, .int .i32 953, .int .i32 954, .int .i32 955, .int .i32 956, .int .i32 957, .int .i32 958, .int .i32 959, .int .i32 960, .int .i32 991, .int .i32 961, .int .i32 963, .int .i32 964, .int .i32 965, .int .i32 966, .int .i32 967, .int .i32 968, .int .i32 969, .int .i32 993]) (.int .i64 (p : Int))).run Tryd.prog W = .ok (.agg (gRow p)) W := by
  have : p = 0 ∨ p = 1 ∨ p = 2 := by omega
  rcases this with rfl | rfl | rfl <;> intro W <;> kernel_rfl
theorem g_idx2 (p n : Nat) (hp : p < 3) (h0 : 0 < n) (hn : n < 10) : ∀ W : World, (Instr.index 68 (.agg (gRow p)) (.int .i64 ((n : Int) - 1))).run Tryd.prog W = .ok (.int .i32 (gCp p n)) W := by
  have h1 : p = 0 ∨ p = 1 ∨ p = 2 := by omega
  have h2 : n = 1 ∨ n = 2 ∨ n = 3 ∨ n = 4 ∨ n = 5 ∨ n = 6 ∨ n = 7 ∨ n = 8 ∨ n = 9 := by omega
  clear hp h0 hn
  rcases h1 with rfl | rfl | rfl <;> rcases h2 with rfl | rfl | rfl | rfl | rfl | rfl | rfl | rfl | rfl <;> intro W <;> kernel_rfl
theorem g_enc (p n : Nat) (hp : p < 3) (h0 : 0 < n) (hn : n < 10) : Utf8.encode (gCp p n) = ⟨(sgn true p n).toArray⟩ := by
  have h1 : p = 0 ∨ p = 1 ∨ p = 2 := by omega
  have h2 : n = 1 ∨ n = 2 ∨ n = 3 ∨ n = 4 ∨ n = 5 ∨ n = 6 ∨ n = 7 ∨ n = 8 ∨ n = 9 := by omega
  clear hp h0 hn
  rcases h1 with rfl | rfl | rfl <;> rcases h2 with rfl | rfl | rfl | rfl | rfl | rfl | rfl | rfl | rfl <;> decide +kernel
set_option maxHeartbeats 16000000 in
theorem num_sign10 (p n : Nat) (w : World) (hp : p < 3) (hn : n < 10) :
    Calls Tryd.prog 60 #[.int .i64 10, .int .i64 (p : Int), .int .i64 (n : Int)] w fun e w' => e = .returned (.string ⟨(sgn true p n).toArray⟩) ∧ Below w.heap.size w w' := by
  by_cases h0 : n = 0
  · subst h0
    go_enter Tryd.func60, Tryd.ntmps60
    go_wp2_with fail
    go_ret
    exact ⟨rfl, Below.refl _ _⟩
  · have hb : ∀ o1 o2 o3 : Obj, Below w.heap.size w (((w.alloc o1).alloc o2).alloc o3) := fun o1 o2 o3 => below_new (below_new (below_new (Below.refl _ _) _) _) _
    have HB := Lib.hid hb; clear hb
    have i1 := g_idx p hp
    have i2 := g_idx2 p n hp (by omega) hn
    have HE := Lib.hid (g_enc p n hp (by omega) hn)
    generalize gRow p = R at i1 i2
    generalize gCp p n = C at i2 HE
    have d0 : ((n : Int) == 0) = false := by simpa using h0
    have dn1 : (1 : Int) ≤ (n : Int) := by omega
    have dn2 : (n : Int) < 10 := by omega
    clear h0 hp hn
    go_enter Tryd.func60, Tryd.ntmps60
    go_wp2_with fail
    go_ret
    exact ⟨by rw [← HE.out]; rfl, HB.out _ _ _⟩

def hCp (n : Nat) : Int := ([1497, 1499, 1500, 1502, 1504, 1505, 1506, 1508, 1510] : List Int).getD (n - 1) 0
theorem h_enc0 (n : Nat) (h0 : 0 < n) (hn : n < 10) : Utf8.encode (1488 + (n : Int) - 1) = ⟨(sgn false 0 n).toArray⟩ := by
  have h2 : n = 1 ∨ n = 2 ∨ n = 3 ∨ n = 4 ∨ n = 5 ∨ n = 6 ∨ n = 7 ∨ n = 8 ∨ n = 9 := by omega
  clear h0 hn
  rcases h2 with rfl | rfl | rfl | rfl | rfl | rfl | rfl | rfl | rfl <;> decide +kernel
theorem h_enc1 (n : Nat) (h0 : 0 < n) (hn : n < 10) : Utf8.encode (hCp n) = ⟨(sgn false 1 n).toArray⟩ := by
  have h2 : n = 1 ∨ n = 2 ∨ n = 3 ∨ n = 4 ∨ n = 5 ∨ n = 6 ∨ n = 7 ∨ n = 8 ∨ n = 9 := by omega
  clear h0 hn
  rcases h2 with rfl | rfl | rfl | rfl | rfl | rfl | rfl | rfl | rfl <;> decide +kernel
theorem h_enc2 (n : Nat) (h0 : 0 < n) (hn : n < 5) : Utf8.encode (1511 + (n : Int) - 1) = ⟨(sgn false 2 n).toArray⟩ := by
  have h2 : n = 1 ∨ n = 2 ∨ n = 3 ∨ n = 4 := by omega
  clear h0 hn
  rcases h2 with rfl | rfl | rfl | rfl <;> decide +kernel
theorem h_sum (n : Nat) (h0 : 4 < n) (hn : n < 10) : sgn false 2 4 ++ sgn false 2 (n - 4) = sgn false 2 n := by
  have h2 : n = 5 ∨ n = 6 ∨ n = 7 ∨ n = 8 ∨ n = 9 := by omega
  clear h0 hn
  rcases h2 with rfl | rfl | rfl | rfl | rfl <;> decide +kernel
end Go.Proofs.YticflmepmmdnfabDoor
