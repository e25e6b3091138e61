/- Contracts of the program's quantiser. -/
import Derived.Test.YtdmoceooijbajaaDoorPMod
import Derived.Test.YtdmoceooijbajaaDoorBase
import Derived.Deep.RegionHeld3
import Derived.IntWalk
namespace Go.Proofs.YtdmoceooijbajaaDoor
open Go.RowKit
set_option linter.unusedVariables false
set_option linter.unusedSimpArgs false
theorem implIsQuantiser_any (l s : Int) (w : World) :
    Calls Tryd.prog 49 #[.agg #[.int .i64 l, .int .i64 s]] w fun e w' => e = .returned (.bool (quantOk l s)) ∧ Below w.heap.size w w' := by
  go_enter Tryd.func49, Tryd.ntmps49
  go_wp2
  all_goals (go_ret; exact ⟨ret_bool (by simp [quantOk, inB, *]; try omega), (Below.refl _ _).alloc (Nat.le_refl _) _⟩)
end Go.Proofs.YtdmoceooijbajaaDoor
