/- Contracts of the two PowerOf and of SumOf. -/
import Derived.Test.YtdmoceooijbajaaDoorPSum
namespace Go.Proofs.YtdmoceooijbajaaDoor
open Go.RowKit
set_option linter.unusedVariables false
set_option linter.unusedSimpArgs false
def sqr (v : Int) : Int := v * v
def smallB (v : Int) : Bool := inB v (-10000000) 10000000
def power (xs : List Int) : Int × Bool := if seqOk xs && xs.all smallB then ((xs.map sqr).sum, true) else (0, false)
def RetIB (w : World) (x : Int × Bool) (e : Ending) (w' : World) : Prop := e = .returned (.tuple #[.int .i64 x.1, .bool x.2]) ∧ Below w.heap.size w w'
theorem power_noSeq {xs : List Int} (h : seqOk xs = false) : power xs = (0, false) := by simp [power, h]
theorem power_no {xs : List Int} {k : Nat} (hk : k < xs.length) (h : smallB xs[k] = false) : power xs = (0, false) := by simp [power, all_no hk h]
theorem power_end {xs : List Int} (h : seqOk xs = true) (ha : AllTo smallB xs xs.length) : power xs = (sumTo sqr xs xs.length, true) := by
  simp [power, h, allTo_end ha, sumTo_all]
theorem small_of {v : Int} (h : smallB v = true) : 0 ≤ v * v ∧ v * v ≤ 100000000000000 := by
  obtain ⟨h1, h2⟩ := inB_of h
  have := sq_bd (b := 10000000) h1 h2
  omega
theorem sqTo_bd {xs : List Int} {k : Nat} (ha : AllTo smallB xs k) (hk : k ≤ xs.length) : 0 ≤ sumTo sqr xs k ∧ sumTo sqr xs k ≤ 100000000000000 * k := by
  have e : sumTo sqr xs k = sumTo sqr (xs.take k) k := by simp [sumTo, List.take_take]
  have := sumTo_bd sqr (xs.take k) 0 100000000000000 (fun x hx => small_of (List.all_eq_true.1 ha x hx)) k (by rw [List.length_take]; omega)
  rw [e]; omega
def seqSum (xs : List Int) : Int := if seqOk xs then xs.sum else 0
theorem sum_id (xs : List Int) : sumTo (fun v => v) xs xs.length = xs.sum := by rw [sumTo_all]; simp
end Go.Proofs.YtdmoceooijbajaaDoor
