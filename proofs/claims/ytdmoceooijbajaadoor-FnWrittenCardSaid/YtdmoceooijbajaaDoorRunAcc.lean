/- Contracts of the two RunAccumulator and the two RestsOf. -/
import Derived.Test.YtdmoceooijbajaaDoorMatRun
import Derived.Test.YtdmoceooijbajaaDoorPRun2
import Derived.Test.YtdmoceooijbajaaDoorStep
import Derived.Test.YtdmoceooijbajaaDoorCopy
import Derived.Test.YtdmoceooijbajaaDoorSComb
import Derived.Deep.RegionLaw
import Derived.Deep.AppendLies
namespace Go.Proofs.YtdmoceooijbajaaDoor
open Go.RowKit
set_option linter.unusedVariables false
set_option linter.unusedSimpArgs false
def RetRun (w : World) (R : Run) (e : Ending) (w' : World) : Prop :=
  ∃ A c rs A1 c1 A2 c2, e = .returned (.tuple #[.slice A (rs : List Rw).length c, .slice A1 R.y.length c1, .slice A2 R.s.length c2, .bool R.ok]) ∧ lists rs = R.c ∧ OwnM w' w.heap.size A c rs ∧ Own w' w.heap.size A1 c1 R.y ∧ Own w' w.heap.size A2 c2 R.s ∧
    Apart A1 A2 ∧ (∀ r ∈ rs, Apart r.A A1) ∧ (∀ r ∈ rs, Apart r.A A2) ∧ Apart A A1 ∧ Apart A A2 ∧ Below w.heap.size w w'
theorem results_tmp4 {fn : Func} {t u v x : Tmp} (h : fn.results = #[.tmp t, .tmp u, .tmp v, .tmp x]) (tmps : Array Value) (P : Program) (w : World) :
    (results fn tmps).run P w = .ok (.tuple #[tmps.getD t undef, tmps.getD u undef, tmps.getD v undef, tmps.getD x undef]) w := by simp [results, h]
theorem ownM_nil (w : World) (B : Nat) : OwnM w B none 0 [] := ⟨World.ownsRow_nil w B _ _, fun r hr => (by cases hr), fun i j hi => absurd hi (by simp), fun r hr => by cases hr⟩
theorem retRun_no {w w' : World} (hb : Below w.heap.size w w') : RetRun w ⟨[], [], [], false⟩ (.returned (.tuple #[.slice none 0 0, .slice none 0 0, .slice none 0 0, .bool false])) w' :=
  ⟨none, 0, [], none, 0, none, 0, rfl, rfl, ownM_nil _ _, own_nil _ _, own_nil _ _, (fun a a' e => by cases e), (fun r hr => by cases hr), (fun r hr => by cases hr), (fun a a' e => by cases e), (fun a a' e => by cases e), hb⟩
theorem at_row {rs : List Rw} {xss : List (List Int)} {j : Nat} {xs : List Int} (h : lists rs = xss) (hx : xss[j]? = some xs) (hj : j < rs.length) : rs[j].xs = xs := by
  subst h
  simp only [lists, List.getElem?_map, List.getElem?_eq_getElem hj, Option.map_some] at hx
  exact Option.some.inj hx
theorem runOk_split {o m : Int} {s xs : List Int} (h : runOk o m s xs = false) : restsOk o m s = false ∨ (restsOk o m s = true ∧ xs.all (restB m) = false) ∨ (restsOk o m s = true ∧ xs.all (restB m) = true ∧ 1000 < xs.length) := by
  rcases Bool.eq_false_or_eq_true (restsOk o m s) with h1 | h1
  · rcases Bool.eq_false_or_eq_true (xs.all (restB m)) with h2 | h2
    · simp only [runOk, h1, h2, Bool.true_and, decide_eq_false_iff_not] at h
      exact .inr (.inr ⟨h1, h2, by omega⟩)
    · exact .inr (.inl ⟨h1, h2⟩)
  · exact .inl h1
end Go.Proofs.YtdmoceooijbajaaDoor
