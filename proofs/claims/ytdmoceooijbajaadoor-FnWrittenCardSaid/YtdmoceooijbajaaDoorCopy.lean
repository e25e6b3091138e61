/- Contracts of slices.Equal, l3Equal and l1Copy. -/
import Derived.Test.YtdmoceooijbajaaDoorClone
namespace Go.Proofs.YtdmoceooijbajaaDoor
open Go.RowKit
set_option linter.unusedVariables false
set_option linter.unusedSimpArgs false
theorem l1Copy_any (A : Option Addr) (c : Nat) (xs : List Int) (w : World) (hr : Rd w w.heap.size A xs) (hn : xs.length ≤ 1099511627776) :
    Calls Tryd.prog 52 #[.slice A xs.length c] w (RetSl w xs) := by
  have hb0 : Below w.heap.size w (w.alloc (.cells #[] 3)) := (Below.refl _ _).alloc (Nat.le_refl _) _
  have hR := hr.below hb0
  go_enter Tryd.func52, Tryd.ntmps52
  go_wp2_with (at_builtin; refine app_list rfl (.tmp 3) (.tmp 4) rfl w.heap.size _ _ 0 [] rfl rfl (own_empty w _ (Nat.le_refl _)) w.heap.size A c xs rfl hR (by omega) (by simp) ?_)
  intro A1 c1 w1 hown1 hw1 hm1
  go_wp2
  go_ret
  exact ⟨A1, c1, by simp, hown1, hb0.trans (below_wrote hw1 (by simp) (own_lo (own_empty w _ (Nat.le_refl _))))⟩
end Go.Proofs.YtdmoceooijbajaaDoor
