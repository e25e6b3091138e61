/- Contracts of ScaleSequence and AddSequences where their results are sequences, and of MechanicalWord where it gives a word. -/
import Derived.Test.YtgkijkenbjjnmaaGreatDoorCopy
import Derived.Test.YtgkijkenbjjnmaaGreatDoorMat
import Derived.Test.YtgkijkenbjjnmaaGreatDoorPComb
import Derived.Deep.RegionLaw
import Derived.IntWalk
namespace Go.Proofs.YtgkijkenbjjnmaaGreatDoor
open Go.RowKit
set_option linter.unusedVariables false
set_option linter.unusedSimpArgs false
def absI (v : Int) : Int := max v (-v)
theorem size_any (v : Int) (w : World) (h1 : -4611686018427387904 ≤ v) (h2 : v ≤ 4611686018427387904) : Calls Tryz.prog 64 #[.int .i64 v] w fun e w' => e = .returned (.int .i64 (absI v)) ∧ w = w' := by
  go_enter Tryz.func64, Tryz.ntmps64
  go_wp2
  all_goals (go_ret; first | exact ⟨ret_int (show v = absI v by unfold absI; omega), rfl⟩ | exact ⟨ret_int (show -v = absI v by unfold absI; omega), rfl⟩)
def RetY (ys : List Int) (w : World) (e : Ending) (w' : World) : Prop := ∃ A c, e = .returned (.tuple #[.slice A ys.length c, .bool true]) ∧ Own w' w.heap.size A c ys ∧ Below w.heap.size w w'
theorem abs_div {k v : Int} (hv : v ≠ 0) (h1 : -1099511627776 ≤ v * k) (h2 : v * k ≤ 1099511627776) : absI k ≤ 1099511627776 / absI v := by
  have e : absI k * absI v ≤ 1099511627776 := by
    unfold absI
    rcases Int.le_total 0 v with a | a <;> rcases Int.le_total 0 k with b | b
    · rw [show max k (-k) = k by omega, show max v (-v) = v by omega, Int.mul_comm]; exact h2
    · rw [show max k (-k) = -k by omega, show max v (-v) = v by omega, Int.neg_mul, Int.mul_comm]; omega
    · rw [show max k (-k) = k by omega, show max v (-v) = -v by omega, Int.mul_neg, Int.mul_comm]; omega
    · rw [show max k (-k) = -k by omega, show max v (-v) = -v by omega, Int.neg_mul_neg, Int.mul_comm]; exact h2
  exact (Int.le_ediv_iff_mul_le (by unfold absI; omega)).2 e
end Go.Proofs.YtgkijkenbjjnmaaGreatDoor
