/- Contracts of spec.RunAccumulator and of the two RestsOf. -/
import Derived.Test.YtdmoceooijbajaaDoorRunAcc
namespace Go.Proofs.YtdmoceooijbajaaDoor
open Go.RowKit
set_option linter.unusedVariables false
set_option linter.unusedSimpArgs false
def rests (o m : Int) (s xs : List Int) : List Int × Bool := if runOk o m s xs then (restL m s xs xs.length, true) else ([], false)
theorem rests_yes {o m : Int} {s xs : List Int} (h : runOk o m s xs = true) : rests o m s xs = (restL m s xs xs.length, true) := by simp [rests, h]
theorem rests_no {o m : Int} {s xs : List Int} (h : runOk o m s xs = false) : rests o m s xs = ([], false) := by simp [rests, h]
theorem restL_length (m : Int) (s xs : List Int) (n : Nat) : (restL m s xs n).length = n := lst_length _ _
theorem rests_len (o m : Int) (s xs : List Int) : (rests o m s xs).1.length ≤ 1000 := by
  rcases Bool.eq_false_or_eq_true (runOk o m s xs) with h | h
  · rw [rests_yes h]
    have := (runOk_parts h).2.2
    simp only [restL_length]; omega
  · rw [rests_no h]; simp
end Go.Proofs.YtdmoceooijbajaaDoor
