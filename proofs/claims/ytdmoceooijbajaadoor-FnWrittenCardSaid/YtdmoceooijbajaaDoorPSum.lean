/- Plain laws of sums over a list's first elements. No program. -/
import Derived.Test.YtdmoceooijbajaaDoorBase
namespace Go.Proofs.YtdmoceooijbajaaDoor
open Go.RowKit
/-- The sum of f over the first k elements. -/
def sumTo (f : Int → Int) (xs : List Int) (k : Nat) : Int := ((xs.take k).map f).sum
theorem sumTo_zero (f : Int → Int) (xs : List Int) : sumTo f xs 0 = 0 := by simp [sumTo]
theorem sum_append_one (l : List Int) (x : Int) : (l ++ [x]).sum = l.sum + x := by
  rw [List.sum_append]; simp
theorem sumTo_succ (f : Int → Int) (xs : List Int) {k : Nat} (h : k < xs.length) : sumTo f xs (k + 1) = sumTo f xs k + f xs[k] := by
  unfold sumTo
  rw [List.take_succ_eq_append_getElem h, List.map_append, List.map_cons, List.map_nil, sum_append_one]
theorem sumTo_all (f : Int → Int) (xs : List Int) : sumTo f xs xs.length = (xs.map f).sum := by
  unfold sumTo; rw [List.take_of_length_le (Nat.le_refl _)]
/-- Bounds: each term between lo and hi. -/
theorem sumTo_bd (f : Int → Int) (xs : List Int) (lo hi : Int) (h : ∀ x ∈ xs, lo ≤ f x ∧ f x ≤ hi) : ∀ k : Nat, k ≤ xs.length → lo * k ≤ sumTo f xs k ∧ sumTo f xs k ≤ hi * k := by
  intro k
  induction k with
  | zero => intro _; simp [sumTo_zero]
  | succ k ih =>
    intro hk
    have h1 := ih (by omega)
    have h2 := h xs[k] (List.getElem_mem (by omega))
    rw [sumTo_succ f xs (by omega)]
    have e1 : lo * ((k + 1 : Nat) : Int) = lo * k + lo := by rw [Int.natCast_add, Int.mul_add]; simp
    have e2 : hi * ((k + 1 : Nat) : Int) = hi * k + hi := by rw [Int.natCast_add, Int.mul_add]; simp
    omega
theorem sq_bd {v b : Int} (h1 : -b ≤ v) (h2 : v ≤ b) : 0 ≤ v * v ∧ v * v ≤ b * b := by
  rcases Int.le_total 0 v with h | h
  · exact ⟨Int.mul_nonneg h h, Int.mul_le_mul h2 h2 h (by omega)⟩
  · have e : v * v = (-v) * (-v) := by rw [Int.neg_mul_neg]
    rw [e]
    exact ⟨Int.mul_nonneg (by omega) (by omega), Int.mul_le_mul (by omega) (by omega) (by omega) (by omega)⟩
end Go.Proofs.YtdmoceooijbajaaDoor
