/- Contracts of the two LevelsOf. -/
import Derived.Test.YtdmoceooijbajaaDoorDiff
import Derived.Test.YtdmoceooijbajaaDoorPSum
import Derived.Test.YtdmoceooijbajaaDoorBase
namespace Go.Proofs.YtdmoceooijbajaaDoor
open Go.RowKit
set_option linter.unusedVariables false
set_option linter.unusedSimpArgs false
def neg0 (c : Int) : Int := min c 0
def pos0 (c : Int) : Int := max c 0
def levs : Nat → Int × Int
  | 0 => (0, 0)
  | n + 1 => ((levs n).1 + ((coefs n).map neg0).sum, (levs n).2 + ((coefs n).map pos0).sum)
def levels (o m : Int) : Int × Int := if accOk o m then levs o.toNat else (0, 0)
theorem coefs_small (j : Nat) (h : j ≤ 6) : ∀ c ∈ coefs j, -64 ≤ c ∧ c ≤ 64 := by
  have : j = 0 ∨ j = 1 ∨ j = 2 ∨ j = 3 ∨ j = 4 ∨ j = 5 ∨ j = 6 := by omega
  rcases this with rfl | rfl | rfl | rfl | rfl | rfl | rfl <;> decide
theorem levs_small (j : Nat) (h : j ≤ 6) : -64 ≤ (levs j).1 ∧ (levs j).1 ≤ 64 ∧ -64 ≤ (levs j).2 ∧ (levs j).2 ≤ 64 := by
  have : j = 0 ∨ j = 1 ∨ j = 2 ∨ j = 3 ∨ j = 4 ∨ j = 5 ∨ j = 6 := by omega
  rcases this with rfl | rfl | rfl | rfl | rfl | rfl | rfl <;> decide
theorem negTo_bd (j : Nat) (h : j ≤ 6) (k : Nat) (hk : k ≤ (coefs j).length) : -448 ≤ sumTo neg0 (coefs j) k ∧ sumTo neg0 (coefs j) k ≤ 0 := by
  have h1 := sumTo_bd neg0 (coefs j) (-64) 0 (fun x hx => by have := coefs_small j h x hx; unfold neg0; omega) k hk
  rw [coefs_length] at hk
  omega
theorem posTo_bd (j : Nat) (h : j ≤ 6) (k : Nat) (hk : k ≤ (coefs j).length) : 0 ≤ sumTo pos0 (coefs j) k ∧ sumTo pos0 (coefs j) k ≤ 448 := by
  have h1 := sumTo_bd pos0 (coefs j) 0 64 (fun x hx => by have := coefs_small j h x hx; unfold pos0; omega) k hk
  rw [coefs_length] at hk
  omega
theorem levs_step (j : Nat) : levs (j + 1) = ((levs j).1 + sumTo neg0 (coefs j) (coefs j).length, (levs j).2 + sumTo pos0 (coefs j) (coefs j).length) := by
  rw [sumTo_all, sumTo_all]; rfl
def RetII (w : World) (x : Int × Int) (e : Ending) (w' : World) : Prop := e = .returned (.tuple #[.int .i64 x.1, .int .i64 x.2]) ∧ Below w.heap.size w w'
end Go.Proofs.YtdmoceooijbajaaDoor
