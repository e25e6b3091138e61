/- Plain laws: runs with a constant input, the least and the greatest output. No program is walked. -/
import Derived.Test.YtdmoceooijbajaaDoorPRun2
import Derived.Test.YtdmoceooijbajaaDoorPCycle
import Derived.Test.YtdmoceooijbajaaDoorLevels
namespace Go.Proofs.YtdmoceooijbajaaDoor
open Go.RowKit
set_option linter.unusedVariables false
set_option linter.unusedSimpArgs false
theorem stX_const (m : Int) (s : List Int) (v : Int) (n : Nat) : ∀ k, k ≤ n → stX m s (List.replicate n v) k = stN m s v k
  | 0, _ => rfl
  | k + 1, h => by rw [stX, stN, stX_const m s v n k (by omega), const_getD (by omega)]
/-- What a cycle that is found says. -/
theorem cyc_some {m : Int} {s : List Int} {x : Int} {n : Int} : ∀ f a, cycFrom m s x f a = (n, true) → ∃ k : Nat, n = k ∧ a ≤ k ∧ k < a + f ∧ eqB (stN m s x k) s = true ∧ ∀ j, a ≤ j → j < k → eqB (stN m s x j) s = false
  | 0, a, h => by simp [cycFrom] at h
  | f + 1, a, h => by
    rw [cycFrom] at h
    rcases Bool.eq_false_or_eq_true (eqB (stN m s x a) s) with e | e
    · rw [if_pos e] at h
      injection h with h
      exact ⟨a, h.symm, Nat.le_refl _, by omega, e, fun j h1 h2 => by omega⟩
    · rw [if_neg (by simp [e])] at h
      obtain ⟨k, h1, h2, h3, h4, h5⟩ := cyc_some f (a + 1) h
      refine ⟨k, h1, by omega, by omega, h4, fun j h6 h7 => ?_⟩
      by_cases hj : j = a
      · subst hj; exact e
      · exact h5 j (by omega) h7
theorem dFn_bit {f : Nat → Int} (h : ∀ k, 0 ≤ f k ∧ f k ≤ 1) : (∀ k, -1 ≤ dFn f 1 k ∧ dFn f 1 k ≤ 1) ∧ (∀ k, -2 ≤ dFn f 2 k ∧ dFn f 2 k ≤ 2) ∧ ∀ k, -4 ≤ dFn f 3 k ∧ dFn f 3 k ≤ 4 := by
  have h1 := dF_bd (f := f) (a := 0) (b := 1) h (by omega) (by omega)
  have h2 := dF_bd (f := dF f) (a := -1) (b := 1) (fun k => by have := h1 k; omega) (by omega) (by omega)
  have h3 := dF_bd (f := dF (dF f)) (a := -2) (b := 2) (fun k => by have := h2 k; omega) (by omega) (by omega)
  exact ⟨fun k => by have := h1 k; simp only [dFn]; omega, fun k => by have := h2 k; simp only [dFn]; omega, fun k => by have := h3 k; simp only [dFn]; omega⟩
theorem combF_bd {g : Nat → Nat → Int} (h : ∀ i k, 0 ≤ g i k ∧ g i k ≤ 1) {o : Nat} (h1 : 1 ≤ o) (h2 : o ≤ 4) (k : Nat) : (levs o).1 ≤ combF g o k ∧ combF g o k ≤ (levs o).2 := by
  have b0 := h 0 k
  have b1 := (dFn_bit (h 1)).1 k
  have b2 := (dFn_bit (h 2)).2.1 k
  have b3 := (dFn_bit (h 3)).2.2 k
  have e1 : levs 1 = (0, 1) := by decide
  have e2 : levs 2 = (-1, 2) := by decide
  have e3 : levs 3 = (-3, 4) := by decide
  have e4 : levs 4 = (-7, 8) := by decide
  have : o = 1 ∨ o = 2 ∨ o = 3 ∨ o = 4 := by omega
  rcases this with rfl | rfl | rfl | rfl
  · rw [e1]; simp only [combF, dFn]; omega
  · rw [e2]; simp only [combF]; rw [show dFn (g 0) 0 k = g 0 k from rfl]; omega
  · rw [e3]; simp only [combF]; rw [show dFn (g 0) 0 k = g 0 k from rfl]; omega
  · rw [e4]; simp only [combF]; rw [show dFn (g 0) 0 k = g 0 k from rfl]; omega
end Go.Proofs.YtdmoceooijbajaaDoor
