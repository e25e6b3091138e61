/- Contracts of the two CombineCarries and of l6Combine. -/
import Derived.Test.YtdmoceooijbajaaDoorMat
import Derived.Test.YtdmoceooijbajaaDoorPComb
import Derived.Test.YtdmoceooijbajaaDoorDiff
namespace Go.Proofs.YtdmoceooijbajaaDoor
open Go.RowKit
set_option linter.unusedVariables false
set_option linter.unusedSimpArgs false
theorem combine_bad {rs : List Rw} {j : Nat} (hj : j < rs.length) (h : lenOk rs[0].xs.length rs[j].xs = false) (h0 : 0 < rs.length) : combine (lists rs) = ([], false) := by
  refine combine_noAll ?_
  rw [lists_getD h0, lists_all, List.all_eq_false]
  exact ⟨rs[j], List.getElem_mem hj, by simp [h]⟩
end Go.Proofs.YtdmoceooijbajaaDoor
