/- Contracts of slices.IndexFunc and slices.ContainsFunc at slices of ints, for whatever test that captures one variable. -/
import Derived.Test.YthpjpnilmpihaaaSeq
namespace Go.Proofs.Ythpjpnilmpihaaa
open Go.RowKit
set_option linter.unusedVariables false
set_option linter.unusedSimpArgs false
def TestAt (fn : FuncId) (pa : Addr) (p : Int → Bool) (w : World) : Prop :=
  ∀ (v : Int) (W : World), Below w.heap.size w W → Calls Try.prog fn #[.int .i64 v, .pointer (some pa)] W fun e W' => e = .returned (.bool (p v)) ∧ Below W.heap.size W W'
def IdxEnd (w : World) (p : Int → Bool) (xs : List Int) (e : Ending) (w' : World) : Prop :=
  ∃ r : Int, e = .returned (.int .i64 r) ∧ decide (0 ≤ r) = xs.any p ∧ Below w.heap.size w w'
theorem run_enter {P : Program} {f : FuncId} {fn : Func} {c : Code} (hf : P.funcs[f]? = some fn) (hname : (fn.name == "runtime.NumGoroutine") = false) (hb : fn.body = some c) (args : Array Value) (w : World) :
    (callFunc f args).run P w = .ok (.enter f args) w := by
  have h1 : (fn.name = "runtime.NumGoroutine") = False := by simpa using hname
  simp [callFunc, hf, h1, hb]
theorem any_hit {p : Int → Bool} {xs : List Int} {k : Nat} (hk : k < xs.length) (e : p xs[k] = true) : xs.any p = true := List.any_eq_true.2 ⟨xs[k], List.getElem_mem hk, e⟩
theorem any_miss {p : Int → Bool} {xs : List Int} (h : AllTo (fun v => !p v) xs xs.length) : xs.any p = false := by
  have := allTo_end h
  rw [List.any_eq_false]
  intro x hx
  have := List.all_eq_true.1 this x hx
  simpa using this
def restB (m v : Int) : Bool := decide (0 ≤ v) && decide (v < m)
theorem any_not_all (p : Int → Bool) (xs : List Int) : (!xs.any fun v => !p v) = xs.all p := by
  induction xs with
  | nil => rfl
  | cons x xs ih => simp [← ih]
end Go.Proofs.Ythpjpnilmpihaaa
