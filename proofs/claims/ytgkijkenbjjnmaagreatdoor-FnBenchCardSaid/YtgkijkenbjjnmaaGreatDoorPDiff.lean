/- Plain laws of differences of lists. No program. -/
import Derived.Test.YtgkijkenbjjnmaaGreatDoorBase
namespace Go.Proofs.YtgkijkenbjjnmaaGreatDoor
open Go.RowKit
/-- Each element less the one before it; before the first stands p. -/
def diffs (p : Int) : List Int → List Int
  | [] => []
  | x :: xs => (x - p) :: diffs x xs
def diff1 (xs : List Int) : List Int := diffs 0 xs
def diffN (xs : List Int) : Nat → List Int
  | 0 => xs
  | k + 1 => diff1 (diffN xs k)
theorem diffs_length (xs : List Int) : ∀ p, (diffs p xs).length = xs.length := by
  induction xs with
  | nil => intro p; rfl
  | cons x xs ih => intro p; simp [diffs, ih]
theorem diff1_length (xs : List Int) : (diff1 xs).length = xs.length := diffs_length xs 0
theorem diffN_length (xs : List Int) : ∀ k, (diffN xs k).length = xs.length
  | 0 => rfl
  | k + 1 => by rw [diffN, diff1_length, diffN_length xs k]
theorem diffs_zero (xs : List Int) (p : Int) (h : 0 < xs.length) : (diffs p xs)[0]? = some (xs[0] - p) := by
  cases xs with
  | nil => simp at h
  | cons x xs => simp [diffs]
theorem diffs_succ (xs : List Int) : ∀ (p : Int) (t : Nat) (h : t + 1 < xs.length), (diffs p xs)[t + 1]? = some (xs[t + 1] - xs[t]) := by
  induction xs with
  | nil => intro p t h; simp at h
  | cons x xs ih =>
    intro p t h
    rw [diffs, List.getElem?_cons_succ]
    cases t with
    | zero => rw [diffs_zero xs x (by simpa using h)]; simp
    | succ t => rw [ih x t (by simpa using h)]; simp
theorem diff1_zero (xs : List Int) : (diff1 xs)[0]? = xs[0]? := by
  cases xs with
  | nil => rfl
  | cons x xs => simp [diff1, diffs]
theorem diffs_bd (M : Int) (xs : List Int) : ∀ p, (-M ≤ p ∧ p ≤ M) → (∀ x ∈ xs, -M ≤ x ∧ x ≤ M) → ∀ x ∈ diffs p xs, -(2 * M) ≤ x ∧ x ≤ 2 * M := by
  induction xs with
  | nil => intro p _ _ x hx; simp [diffs] at hx
  | cons y ys ih =>
    intro p hp h x hx
    have hy := h y (List.mem_cons_self ..)
    simp only [diffs, List.mem_cons] at hx
    rcases hx with rfl | hx
    · omega
    · exact ih y hy (fun z hz => h z (List.mem_cons_of_mem _ hz)) x hx
theorem diff1_bd {M : Int} {xs : List Int} (hM : 0 ≤ M) (h : ∀ x ∈ xs, -M ≤ x ∧ x ≤ M) : ∀ x ∈ diff1 xs, -(2 * M) ≤ x ∧ x ≤ 2 * M := diffs_bd M xs 0 (by omega) h
theorem diffN_bd {xs : List Int} (h : ∀ x ∈ xs, -1099511627776 ≤ x ∧ x ≤ 1099511627776) : ∀ k, ∀ x ∈ diffN xs k, -(1099511627776 * 2 ^ k) ≤ x ∧ x ≤ 1099511627776 * 2 ^ k
  | 0 => by simpa [diffN] using h
  | k + 1 => by
    have ih := diffN_bd h k
    have hp : (0 : Int) < 2 ^ k := by have : (0 : Nat) < 2 ^ k := Nat.two_pow_pos k; have e : ((2 ^ k : Nat) : Int) = (2 : Int) ^ k := by simp
                                      omega
    have := diff1_bd (M := 1099511627776 * 2 ^ k) (by omega) ih
    intro x hx
    have := this x hx
    rw [Int.pow_succ]
    omega
theorem diffN_small {xs : List Int} (h : ∀ x ∈ xs, -1099511627776 ≤ x ∧ x ≤ 1099511627776) (k : Nat) (hk : k ≤ 6) : ∀ x ∈ diffN xs k, -70368744177664 ≤ x ∧ x ≤ 70368744177664 := fun x hx => by
  have h1 := diffN_bd h k x hx
  have : k = 0 ∨ k = 1 ∨ k = 2 ∨ k = 3 ∨ k = 4 ∨ k = 5 ∨ k = 6 := by omega
  rcases this with rfl | rfl | rfl | rfl | rfl | rfl | rfl <;> simp at h1 <;> omega
/-- The differences are made from the place t on; below t they are still to come. -/
def DiffTo (xs ys : List Int) (t : Nat) : Prop := ys.length = xs.length ∧ ∀ u, u < xs.length → ys[u]? = if t ≤ u then (diff1 xs)[u]? else xs[u]?
theorem diffTo_start (xs : List Int) : DiffTo xs xs xs.length := ⟨rfl, fun u hu => by rw [if_neg (by omega)]⟩
theorem diffTo_end {xs ys : List Int} {t : Nat} (h : DiffTo xs ys t) (ht : t ≤ 1) : ys = diff1 xs := by
  apply List.ext_getElem?
  intro u
  by_cases hu : u < xs.length
  · rw [h.2 u hu]
    by_cases hc : t ≤ u
    · rw [if_pos hc]
    · obtain rfl : u = 0 := by omega
      rw [if_neg hc, diff1_zero]
  · rw [List.getElem?_eq_none (by rw [h.1]; omega), List.getElem?_eq_none (by rw [diff1_length]; omega)]
theorem diffTo_at {xs ys : List Int} {t u : Nat} (h : DiffTo xs ys t) (hu : u < t) (h1 : u < ys.length) (h2 : u < xs.length) : ys[u] = xs[u] := by
  have e := h.2 u h2
  rw [if_neg (by omega), List.getElem?_eq_getElem h1, List.getElem?_eq_getElem h2] at e
  exact Option.some.inj e
theorem diffTo_step {xs ys : List Int} {i : Nat} (h : DiffTo xs ys (i + 2)) (hi : i + 1 < ys.length) : DiffTo xs (ys.set (i + 1) (ys[i + 1] - ys[i])) (i + 1) := by
  have hl := h.1
  refine ⟨by simp [hl], fun u hu => ?_⟩
  by_cases hc : u = i + 1
  · subst hc
    rw [List.getElem?_set_self hi, if_pos (by omega), diff1, diffs_succ xs 0 i (by omega), diffTo_at h (by omega) hi (by omega), diffTo_at h (by omega) (by omega) (by omega)]
  · rw [List.getElem?_set_ne (by omega), h.2 u hu]
    by_cases h2 : i + 2 ≤ u
    · rw [if_pos h2, if_pos (by omega)]
    · rw [if_neg h2, if_neg (by omega)]
end Go.Proofs.YtgkijkenbjjnmaaGreatDoor
