/- Contract of the program's RunModulator: for all arguments. -/
import Derived.Test.YtdmoceooijbajaaDoorMod
import Derived.Test.YtdmoceooijbajaaDoorStep
namespace Go.Proofs.YtdmoceooijbajaaDoor
open Go.RowKit
set_option linter.unusedVariables false
set_option linter.unusedSimpArgs false
def RetRM (w : World) (x : RMd) (e : Ending) (w' : World) : Prop :=
  ∃ A0 c0 A1 c1 A2 c2, e = .returned (.tuple #[.slice A0 x.y.length c0, .slice A1 x.e.length c1, .slice A2 x.m.length c2, .bool x.ok]) ∧ Own w' w.heap.size A0 c0 x.y ∧ Own w' w.heap.size A1 c1 x.e ∧ Own w' w.heap.size A2 c2 x.m ∧ Apart A0 A1 ∧ Apart A0 A2 ∧ Apart A1 A2 ∧ Below w.heap.size w w'
theorem retRM_no {w w' : World} (h : Below w.heap.size w w') : RetRM w ⟨[], [], [], false⟩ (.returned (.tuple #[.slice none 0 0, .slice none 0 0, .slice none 0 0, .bool false])) w' :=
  ⟨none, 0, none, 0, none, 0, rfl, own_nil _ _, own_nil _ _, own_nil _ _, (fun a a' e => by cases e), (fun a a' e => by cases e), (fun a a' e => by cases e), h⟩
theorem results_four {fn : Func} {t u v x : Tmp} (h : fn.results = #[.tmp t, .tmp u, .tmp v, .tmp x]) (tmps : Array Value) (P : Program) (w : World) :
    (results fn tmps).run P w = .ok (.tuple #[tmps.getD t undef, tmps.getD u undef, tmps.getD v undef, tmps.getD x undef]) w := by
  simp [results, h, go_sem]
end Go.Proofs.YtdmoceooijbajaaDoor
