/- Contracts of the two IsRests and the two PowerOf. -/
import Derived.Test.YtfplecbacgcjgaaFunc
namespace Go.Proofs.Ytfplecbacgcjgaa
open Go.RowKit
set_option linter.unusedVariables false
set_option linter.unusedSimpArgs false
def restsOk (o m : Int) (xs : List Int) : Bool := accOk o m && decide ((xs.length : Int) = o) && xs.all (restB m)
theorem restB_in {m v : Int} : inB v 0 (m - 1) = restB m v := by
  rw [Bool.eq_iff_iff]; simp [inB, restB]; omega
theorem acc_parts {o m : Int} (h : accOk o m = true) : (1 ≤ o ∧ o ≤ 6) ∧ 2 ≤ m ∧ m ≤ 1048576 := by simp [accOk, inB] at h; omega
theorem restsOk_parts {o m : Int} {xs : List Int} (h : restsOk o m xs = true) : ((1 ≤ o ∧ o ≤ 6) ∧ 2 ≤ m ∧ m ≤ 1048576) ∧ (xs.length : Int) = o ∧ ∀ x ∈ xs, 0 ≤ x ∧ x < m := by
  simp only [restsOk, Bool.and_eq_true, List.all_eq_true] at h
  refine ⟨acc_parts h.1.1, by simpa using h.1.2, fun x hx => ?_⟩
  have := h.2 x hx
  simpa [restB] using this
theorem restsOk_noAcc {o m : Int} {xs : List Int} (h : accOk o m = false) : restsOk o m xs = false := by simp [restsOk, h]
theorem restsOk_no {o m : Int} {xs : List Int} {k : Nat} (hk : k < xs.length) (h : restB m xs[k] = false) : restsOk o m xs = false := by
  simp only [restsOk, all_no hk h, Bool.and_false]
theorem restsOk_end {o m : Int} {xs : List Int} (h : accOk o m = true) (ha : AllTo (restB m) xs xs.length) : restsOk o m xs = ((xs.length : Int) == o) := by
  simp only [restsOk, h, allTo_end ha, Bool.true_and, Bool.and_true]
  rw [Bool.eq_iff_iff]; simp
theorem restsOk_all {o m : Int} {xs : List Int} (h : accOk o m = true) (hl : ((xs.length : Int) == o) = true) : restsOk o m xs = xs.all (restB m) := by
  simp only [restsOk, h, Bool.true_and]
  simp only [beq_iff_eq] at hl
  simp [hl]
theorem restsOk_noLen {o m : Int} {xs : List Int} (hl : ((xs.length : Int) == o) = false) : restsOk o m xs = false := by
  simp only [beq_eq_false_iff_ne] at hl
  simp [restsOk, hl]
end Go.Proofs.Ytfplecbacgcjgaa
