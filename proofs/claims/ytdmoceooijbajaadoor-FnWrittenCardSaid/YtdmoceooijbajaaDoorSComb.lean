/- Contracts of l6Combine and of spec.CombineCarries. -/
import Derived.Test.YtdmoceooijbajaaDoorCombine
import Derived.Test.YtdmoceooijbajaaDoorDiffOf
namespace Go.Proofs.YtdmoceooijbajaaDoor
open Go.RowKit
set_option linter.unusedVariables false
set_option linter.unusedSimpArgs false
theorem diffN_bits {xs : List Int} (h : ∀ x ∈ xs, 0 ≤ x ∧ x ≤ 1) : ∀ k, ∀ x ∈ diffN xs k, -(2 ^ k : Int) ≤ x ∧ x ≤ 2 ^ k
  | 0 => by
    intro x hx
    have := h x hx
    simp
    omega
  | k + 1 => by
    have ih := diffN_bits h k
    have hp : (0 : Int) < 2 ^ k := by have : (0 : Nat) < 2 ^ k := Nat.two_pow_pos k; have e : ((2 ^ k : Nat) : Int) = (2 : Int) ^ k := by simp
                                      omega
    have := diff1_bd (M := 2 ^ k) (by omega) ih
    intro x hx
    have := this x hx
    rw [Int.pow_succ]
    omega
theorem diffN_word {xs : List Int} (h : wordOk xs = true) (k : Nat) (hk : k ≤ 6) : seqOk (diffN xs k) = true := by
  refine seqOk_of (fun x hx => ?_) (by rw [diffN_length]; exact wordOk_len h)
  have h1 := diffN_bits (wordOk_mem h) k x hx
  have : k = 0 ∨ k = 1 ∨ k = 2 ∨ k = 3 ∨ k = 4 ∨ k = 5 ∨ k = 6 := by omega
  rcases this with rfl | rfl | rfl | rfl | rfl | rfl | rfl <;> simp at h1 <;> omega
theorem diffOf_word {xs : List Int} (h : wordOk xs = true) (k : Nat) (hk : k ≤ 6) : diffOf xs k = (diffN xs k, true) := by
  rw [diffOf_yes (wordOk_seqOk h) hk, doneOf_yes (diffN_word h k hk)]
theorem allOk {rs : List Rw} {n : Nat} (h : ∀ k, k < rs.length → lenOk n ((lists rs).getD k []) = true) : (lists rs).all (lenOk n) = true := by
  rw [List.all_eq_true]
  intro x hx
  obtain ⟨k, hk, rfl⟩ := List.getElem_of_mem hx
  have := h k (by rw [← lists_length rs]; exact hk)
  have e : (lists rs).getD k [] = (lists rs)[k] := by simp [hk]
  rwa [e] at this
end Go.Proofs.YtdmoceooijbajaaDoor
