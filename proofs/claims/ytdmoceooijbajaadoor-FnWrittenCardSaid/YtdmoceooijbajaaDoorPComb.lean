/- Plain laws of the combination of carries. No program. -/
import Derived.Test.YtdmoceooijbajaaDoorPDiff
namespace Go.Proofs.YtdmoceooijbajaaDoor
open Go.RowKit
set_option linter.unusedVariables false
set_option linter.unusedSimpArgs false
def addL (xs ys : List Int) : List Int := List.zipWith (· + ·) xs ys
theorem addL_length {xs ys : List Int} (h : ys.length = xs.length) : (addL xs ys).length = xs.length := by simp [addL]; omega
theorem addL_at {xs ys : List Int} {k : Nat} (h1 : k < xs.length) (h2 : k < ys.length) : (addL xs ys)[k]? = some (xs[k] + ys[k]) := by
  simp [addL, List.getElem?_zipWith, h1, h2]
theorem addL_bd {xs ys : List Int} {a b : Int} (hx : ∀ x ∈ xs, -a ≤ x ∧ x ≤ a) (hy : ∀ x ∈ ys, -b ≤ x ∧ x ≤ b) : ∀ x ∈ addL xs ys, -(a + b) ≤ x ∧ x ≤ a + b := by
  intro x h
  obtain ⟨i, hi, rfl⟩ := List.getElem_of_mem h
  have hl : i < xs.length ∧ i < ys.length := by simp [addL] at hi; omega
  have e := addL_at hl.1 hl.2
  rw [List.getElem?_eq_getElem hi] at e
  have e := Option.some.inj e
  have h1 := hx _ (List.getElem_mem hl.1)
  have h2 := hy _ (List.getElem_mem hl.2)
  omega
/-- The first k are added. -/
def AddTo (xs ys zs : List Int) (k : Nat) : Prop := zs.length = xs.length ∧ ∀ t, t < xs.length → zs[t]? = if t < k then (addL xs ys)[t]? else xs[t]?
theorem addTo_start (xs ys : List Int) : AddTo xs ys xs 0 := ⟨rfl, fun t ht => by rw [if_neg (by omega)]⟩
theorem addTo_at {xs ys zs : List Int} {k : Nat} (h : AddTo xs ys zs k) (h1 : k < zs.length) (h2 : k < xs.length) : zs[k] = xs[k] := by
  have e := h.2 k h2
  rw [if_neg (by omega), List.getElem?_eq_getElem h1, List.getElem?_eq_getElem h2] at e
  exact Option.some.inj e
theorem addTo_step {xs ys zs : List Int} {k : Nat} (h : AddTo xs ys zs k) (h1 : k < zs.length) (h2 : k < ys.length) : AddTo xs ys (zs.set k (zs[k] + ys[k])) (k + 1) := by
  have hl := h.1
  refine ⟨by simp [hl], fun t ht => ?_⟩
  by_cases hc : t = k
  · subst hc
    rw [List.getElem?_set_self h1, if_pos (by omega), addL_at ht h2, addTo_at h h1 ht]
  · rw [List.getElem?_set_ne (by omega), h.2 t ht]
    by_cases h3 : t < k
    · rw [if_pos h3, if_pos (by omega)]
    · rw [if_neg h3, if_neg (by omega)]
theorem addTo_end {xs ys zs : List Int} (h : AddTo xs ys zs ys.length) (hl : ys.length = xs.length) : zs = addL xs ys := by
  apply List.ext_getElem?
  intro t
  by_cases ht : t < xs.length
  · rw [h.2 t ht, if_pos (by omega)]
  · rw [List.getElem?_eq_none (by rw [h.1]; omega), List.getElem?_eq_none (by rw [addL_length hl]; omega)]
/-- What the first i stages give together. -/
def combTo (n : Nat) (xss : List (List Int)) : Nat → List Int
  | 0 => List.replicate n 0
  | i + 1 => addL (combTo n xss i) (diffN (xss.getD i []) i)
def lenOk (n : Nat) (xs : List Int) : Bool := wordOk xs && decide (xs.length = n)
def combineOk (xss : List (List Int)) : Bool := decide (1 ≤ xss.length) && decide (xss.length ≤ 6) && xss.all (lenOk (xss.getD 0 []).length)
def combine (xss : List (List Int)) : List Int × Bool := if combineOk xss then (combTo (xss.getD 0 []).length xss xss.length, true) else ([], false)
theorem combine_yes {xss : List (List Int)} (h1 : 1 ≤ xss.length) (h2 : xss.length ≤ 6) (h : xss.all (lenOk (xss.getD 0 []).length) = true) : combine xss = (combTo (xss.getD 0 []).length xss xss.length, true) := by
  have e : combineOk xss = true := by simp only [combineOk, decide_eq_true h1, decide_eq_true h2, h]; rfl
  simp [combine, e]
theorem combine_noLen {xss : List (List Int)} (h : ¬ (1 ≤ xss.length ∧ xss.length ≤ 6)) : combine xss = ([], false) := by
  have e : combineOk xss = false := by
    simp only [combineOk, Bool.and_eq_false_iff, decide_eq_false_iff_not]
    omega
  simp [combine, e]
theorem combine_noAll {xss : List (List Int)} (h : xss.all (lenOk (xss.getD 0 []).length) = false) : combine xss = ([], false) := by
  have e : combineOk xss = false := by simp only [combineOk, h, Bool.and_false]
  simp [combine, e]
theorem combTo_length {n : Nat} {xss : List (List Int)} : ∀ i, (∀ j, j < i → (xss.getD j []).length = n) → (combTo n xss i).length = n
  | 0, _ => by simp [combTo]
  | i + 1, h => by
    have ih := combTo_length (n := n) (xss := xss) i (fun j hj => h j (by omega))
    rw [combTo, addL_length (by rw [diffN_length, ih, h i (by omega)]), ih]
theorem combTo_bd {n : Nat} {xss : List (List Int)} : ∀ i, i ≤ 6 → (∀ j, j < i → wordOk (xss.getD j []) = true) → ∀ x ∈ combTo n xss i, -(70368744177664 * (i : Int)) ≤ x ∧ x ≤ 70368744177664 * (i : Int)
  | 0, _, _ => by
    intro x hx
    simp [combTo] at hx
    omega
  | i + 1, hi, h => by
    have ih := combTo_bd (n := n) (xss := xss) i (by omega) (fun j hj => h j (by omega))
    have hd := diffN_small (xs := xss.getD i []) (fun x hx => by have := wordOk_mem (h i (by omega)) x hx; omega) i (by omega)
    intro x hx
    have := addL_bd ih hd x hx
    omega
end Go.Proofs.YtdmoceooijbajaaDoor
