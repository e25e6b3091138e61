/- Plain laws of the states of an accumulator with a constant input, and of its cycle. No program. -/
import Derived.Test.YtdmoceooijbajaaDoorPStep
import Derived.Test.YtdmoceooijbajaaDoorBase
namespace Go.Proofs.YtdmoceooijbajaaDoor
open Go.RowKit
set_option linter.unusedVariables false
set_option linter.unusedSimpArgs false
/-- The rests behind k steps with the input x. -/
def stN (m : Int) (s : List Int) (x : Int) : Nat → List Int
  | 0 => s
  | k + 1 => stepN m (stN m s x k) x
theorem stN_length (m : Int) (s : List Int) (x : Int) : ∀ k, (stN m s x k).length = s.length
  | 0 => rfl
  | k + 1 => by rw [stN, stepN_length, stN_length m s x k]
theorem stN_pred {m : Int} {s : List Int} {x : Int} {k : Nat} (h : 1 ≤ k) : stepN m (stN m s x (k - 1)) x = stN m s x k := by
  obtain ⟨j, rfl⟩ : ∃ j, k = j + 1 := ⟨k - 1, by omega⟩
  rfl
theorem stN_rests {m : Int} {s : List Int} {x : Int} (hm : 2 ≤ m) (h : Rests m s) (hx : 0 ≤ x ∧ x < m) : ∀ k, Rests m (stN m s x k)
  | 0 => h
  | k + 1 => stepN_rests hm (stN_rests hm h hx k) hx
/-- The first of f tries from n on at which the rests are s again. -/
def cycFrom (m : Int) (s : List Int) (x : Int) : Nat → Nat → Int × Bool
  | 0, _ => (0, false)
  | f + 1, n => if eqB (stN m s x n) s then ((n : Int), true) else cycFrom m s x f (n + 1)
def cycOk (o m : Int) (s : List Int) (x most : Int) : Bool := stepOk o m s x && inB most 0 20000
def cycle (o m : Int) (s : List Int) (x most : Int) : Int × Bool := if cycOk o m s x most then cycFrom m s x most.toNat 1 else (0, false)
theorem cycle_yes {o m : Int} {s : List Int} {x : Int} {n : Nat} (h : stepOk o m s x = true) (hn : n ≤ 20000) : cycle o m s x n = cycFrom m s x n 1 := by
  have e : cycOk o m s x n = true := by simp only [cycOk, h, Bool.true_and]; exact inB_true (by omega) (by omega)
  simp [cycle, e]
theorem cycle_no {o m : Int} {s : List Int} {x most : Int} (h : cycOk o m s x most = false) : cycle o m s x most = (0, false) := by simp [cycle, h]
theorem cyc_hit {m : Int} {s : List Int} {x : Int} {n k : Nat} (hk : k ≤ n) (h1 : 1 ≤ k) (h : eqB (stN m s x k) s = true) : cycFrom m s x (n + 1 - k) k = ((k : Int), true) := by
  rw [show n + 1 - k = (n - k) + 1 by omega, cycFrom, if_pos h]
theorem cyc_miss {m : Int} {s : List Int} {x : Int} {n k : Nat} (hk : k ≤ n) (h1 : 1 ≤ k) (h : eqB (stN m s x k) s = false) : cycFrom m s x (n + 1 - k) k = cycFrom m s x (n + 1 - (k + 1)) (k + 1) := by
  rw [show n + 1 - k = (n - k) + 1 by omega, cycFrom, if_neg (by simp [h])]
  congr 1
  omega
theorem cyc_end (m : Int) (s : List Int) (x : Int) (n : Nat) : cycFrom m s x (n + 1 - (n + 1)) (n + 1) = (0, false) := by rw [Nat.sub_self]; rfl
end Go.Proofs.YtdmoceooijbajaaDoor
