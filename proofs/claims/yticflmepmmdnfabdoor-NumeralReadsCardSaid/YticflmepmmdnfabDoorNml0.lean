/- Numerals in thirteen scripts, plain: what the program writes is what the reference writes. No model in this text. -/
import Derived.Test.YticflmepmmdnfabDoorNum
import Derived.Lib.MapU
import Derived.Lib.MapLaws
import Derived.Lib.TrimAscii
namespace Go.Proofs.YticflmepmmdnfabDoor.Nml
set_option linter.unusedVariables false
set_option linter.unusedSimpArgs false
open Go.Lib

/-- Roman: the program. -/
def romD (a b c : UInt8) (n : Nat) : List UInt8 := if n = 9 then [a, c] else if 5 ≤ n then [b] ++ List.replicate (n - 5) a else if n = 4 then [a, b] else List.replicate n a
def romS (n : Nat) : List UInt8 := List.replicate (n / 1000) 77 ++ romD 67 68 77 (n / 100 % 10) ++ romD 88 76 67 (n / 10 % 10) ++ romD 73 86 88 (n % 10)
/-- Greek and Hebrew: the program. -/
def sgnL (g : Bool) (place : Nat) : List (List UInt8) := if g then ([[[206, 177], [206, 178], [206, 179], [206, 180], [206, 181], [207, 155], [206, 182], [206, 183], [206, 184]], [[206, 185], [206, 186], [206, 187], [206, 188], [206, 189], [206, 190], [206, 191], [207, 128], [207, 159]], [[207, 129], [207, 131], [207, 132], [207, 133], [207, 134], [207, 135], [207, 136], [207, 137], [207, 161]]] : List (List (List UInt8))).getD place [] else ([[[215, 144], [215, 145], [215, 146], [215, 147], [215, 148], [215, 149], [215, 150], [215, 151], [215, 152]], [[215, 153], [215, 155], [215, 156], [215, 158], [215, 160], [215, 161], [215, 162], [215, 164], [215, 166]], [[215, 167], [215, 168], [215, 169], [215, 170], [215, 170, 215, 167], [215, 170, 215, 168], [215, 170, 215, 169], [215, 170, 215, 170], [215, 170, 215, 170, 215, 167]]] : List (List (List UInt8))).getD place []
def sgn (g : Bool) (place n : Nat) : List UInt8 := if n = 0 then [] else (sgnL g place).getD (n - 1) []
def sigS (g : Bool) (n : Nat) : List UInt8 :=
  if g = false ∧ (n % 100 = 15 ∨ n % 100 = 16) then sgn g 2 (n / 100) ++ sgn g 0 9 ++ sgn g 0 (n % 100 - 9) else sgn g 2 (n / 100) ++ sgn g 1 (n / 10 % 10) ++ sgn g 0 (n % 10)
/-- Chinese: the program. -/
def chD (n : Nat) : List UInt8 := ([[227, 128, 135], [228, 184, 128], [228, 186, 140], [228, 184, 137], [229, 155, 155], [228, 186, 148], [229, 133, 173], [228, 184, 131], [229, 133, 171], [228, 185, 157]] : List (List UInt8)).getD n []
def chP : List (Nat × List UInt8) := [(1000, [229, 141, 131]), (100, [231, 153, 190]), (10, [229, 141, 129]), (1, [])]
def chStep (n : Nat) (st : List UInt8 × Bool) (p : Nat × List UInt8) : List UInt8 × Bool :=
  if n / p.1 % 10 = 0 then (st.1, !st.1.isEmpty) else (((if st.2 then st.1 ++ chD 0 else st.1) ++ (chD (n / p.1 % 10) ++ p.2)), false)
def chS (n : Nat) : List UInt8 := if n = 0 then chD 0 else (chP.foldl (chStep n) ([], false)).1
/-- The reference. -/
def listR : List (Nat × List UInt8) := [(1000, [77]), (900, [67, 77]), (500, [68]), (400, [67, 68]), (100, [67]), (90, [88, 67]), (50, [76]), (40, [88, 76]), (10, [88]), (9, [73, 88]), (5, [86]), (4, [73, 86]), (1, [73])]
def listG : List (Nat × List UInt8) := [(900, [207, 161]), (800, [207, 137]), (700, [207, 136]), (600, [207, 135]), (500, [207, 134]), (400, [207, 133]), (300, [207, 132]), (200, [207, 131]), (100, [207, 129]), (90, [207, 159]), (80, [207, 128]), (70, [206, 191]), (60, [206, 190]), (50, [206, 189]), (40, [206, 188]), (30, [206, 187]), (20, [206, 186]), (10, [206, 185]), (9, [206, 184]), (8, [206, 183]), (7, [206, 182]), (6, [207, 155]), (5, [206, 181]), (4, [206, 180]), (3, [206, 179]), (2, [206, 178]), (1, [206, 177])]
def listH : List (Nat × List UInt8) := [(400, [215, 170]), (300, [215, 169]), (200, [215, 168]), (100, [215, 167]), (90, [215, 166]), (80, [215, 164]), (70, [215, 162]), (60, [215, 161]), (50, [215, 160]), (40, [215, 158]), (30, [215, 156]), (20, [215, 155]), (16, [215, 152, 215, 150]), (15, [215, 152, 215, 149]), (10, [215, 153]), (9, [215, 152]), (8, [215, 151]), (7, [215, 150]), (6, [215, 149]), (5, [215, 148]), (4, [215, 147]), (3, [215, 146]), (2, [215, 145]), (1, [215, 144])]
def times (s v n : Nat) : Nat := if s = 11 ∧ (v = 15 ∨ v = 16) then (if n = v then 1 else 0) else n / v
def reps (t : List UInt8) : Nat → List UInt8
  | 0 => []
  | k + 1 => t ++ reps t k
def refStep (s : Nat) (st : List UInt8 × Nat) (p : Nat × List UInt8) : List UInt8 × Nat := (st.1 ++ reps p.2 (times s p.1 st.2), st.2 - times s p.1 st.2 * p.1)
def refS (s n : Nat) : List UInt8 := ((if s = 9 then listR else if s = 10 then listG else listH).foldl (refStep s) ([], n)).1
def rchStep (n : Nat) (o : List UInt8) (p : Nat × List UInt8) : List UInt8 :=
  if n / p.1 % 10 = 0 then (if !o.isEmpty && (n % p.1 != 0) && !((chD 0).isSuffixOf o) then o ++ chD 0 else o) else o ++ (chD (n / p.1 % 10) ++ p.2)
def rchS (n : Nat) : List UInt8 := if n = 0 then chD 0 else chP.foldl (rchStep n) []

def allU (n : Nat) (f : Nat → Bool) : Bool := match n with | 0 => true | k + 1 => f k && allU k f
theorem allU_of : ∀ (n : Nat) (f : Nat → Bool), allU n f = true → ∀ k, k < n → f k = true
  | 0, _, _, k, h => by omega
  | n + 1, f, h, k, hk => by
    unfold allU at h; rw [Bool.and_eq_true] at h
    by_cases e : k = n
    · rw [e]; exact h.1
    · exact allU_of n f h.2 k (by omega)
theorem four_of (f : Nat → Bool) (A : Nat) (h : allU A (fun a => allU 10 fun b => allU 10 fun c => allU 10 fun d => f (1000 * a + 100 * b + 10 * c + d)) = true) (n : Nat) (hn : n < 1000 * A) : f n = true := by
  have := allU_of 10 _ (allU_of 10 _ (allU_of 10 _ (allU_of A _ h (n / 1000) (by omega)) (n / 100 % 10) (by omega)) (n / 10 % 10) (by omega)) (n % 10) (by omega)
  rwa [show 1000 * (n / 1000) + 100 * (n / 100 % 10) + 10 * (n / 10 % 10) + n % 10 = n by omega] at this
set_option maxHeartbeats 8000000 in
theorem rom_ref (n : Nat) (h : n < 4000) : romS n = refS 9 n := by
  have := four_of (fun n => romS n == refS 9 n) 4 (by decide +kernel) n (by omega)
  simpa using this
set_option maxHeartbeats 8000000 in
theorem sigG_ref (n : Nat) (h : n < 1000) : sigS true n = refS 10 n := by
  have := four_of (fun n => sigS true n == refS 10 n) 1 (by decide +kernel) n (by omega)
  simpa using this
set_option maxHeartbeats 8000000 in
theorem sigH_ref (n : Nat) (h : n < 1000) : sigS false n = refS 11 n := by
  have := four_of (fun n => sigS false n == refS 11 n) 1 (by decide +kernel) n (by omega)
  simpa using this
set_option maxHeartbeats 8000000 in
theorem ch_ref (n : Nat) (h : n < 10000) : chS n = rchS n := by
  have := four_of (fun n => chS n == rchS n) 10 (by decide +kernel) n (by omega)
  simpa using this

end Go.Proofs.YticflmepmmdnfabDoor.Nml
